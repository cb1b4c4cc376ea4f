/- Cells, plain: spots, least and greatest, the normal form. -/
import Derived.Test.YtniolldgidgffaaGreatDoorQap
import Derived.Test.YtniolldgidgffaaGreatDoorQal
import Derived.Test.YtniolldgidgffaaGreatDoorQaq
import Derived.Test.YtniolldgidgffaaGreatDoorQan
import Derived.Test.YtniolldgidgffaaGreatDoorQao
import Derived.Laws.IdiomStrings
import Derived.Laws.BytesString
import Derived.Laws.Externs
set_option linter.unusedSimpArgs false
set_option linter.unusedVariables false
/- A slice literal that is only read from the first; slices of what is only read; several orders, walked in one step. -/
namespace Go.Proofs.YtniolldgidgffaaGreatDoor
open Go Go.RowKit
set_option maxRecDepth 100000
section
variable {P : Program} {N : Nat} {E : Env} {F : Fm} {H : List OB} {o : Oper}
end
section
variable {N : Nat} {E : Env} {F : Fm} {H : List OB} {o : Oper}
theorem Yslr {t e : TypeId} {sz : Nat} {x : Operand} {lo hi : Option Operand} {l h : Nat} {v : Value} {rows : List (List CV)} (ho : o.op = .slice t x lo hi none := by exact rfl) (ht : bE.get t = some (e, sz) := by exact rfl) (hx : ev F x = some (.c (.r v rows)) := by exact rfl) (hlo : (lo = none ∧ l = 0) ∨ ∃ y kd z, lo = some y ∧ ev F y = some (.c (.s (.int kd z))) ∧ z = l := by first | exact .inl ⟨rfl, rfl⟩ | exact .inr ⟨_, _, _, rfl, rfl, by first | rfl | omega⟩)
    (hhi : (hi = none ∧ h = rows.length) ∨ ∃ y kd z, hi = some y ∧ ev F y = some (.c (.s (.int kd z))) ∧ z = h := by first | exact .inl ⟨rfl, rfl⟩ | exact .inr ⟨_, _, _, rfl, rfl, by first | rfl | omega⟩) (hrow : ∀ row ∈ rows, row.length = sz := by assumption) (hlh : l ≤ h := by omega) (hhc : h ≤ rows.length := by omega) : Rd Tryz.prog N E o F H (.c (.r (subV v l h sz) ((rows.take h).drop l))) := rd_slicer ho (KE ht) hx hrow hlo hhi hlh hhc
variable {Q : Exit → Fm → List OB → Prop} {ops : Array Oper}
def AM1 (P : Program) (N : Nat) (E : Env) (ops : Array Oper) (o : Oper) (i : Nat) (U : Option (List Nat)) (n : Nat) (ps : List Plan) (F : Fm) (H : List OB) (Q : Exit → Fm → List OB → Prop) : Prop := ops[i]? = some o → headsOf ps = [(i, U)] → AM P N E ops (n + 1) ps F H Q
theorem dkm {P : Program} {k i n : Nat} {U : Option (List Nat)} {ps : List Plan} (hh : headsOf ps = [(i, U)]) (hi : ops[i]? = some o) (ho : okc ops o F = some k) (h : KD k (AM1 P N E ops o i U n ps F H Q)) : AM P N E ops (n + 1) ps F H Q := (show AM1 P N E ops o i U n ps F H Q from h) hi hh
theorem am_rdg {P : Program} {i n d : Nat} {x : AV} {ps : List Plan} (hr : Rd P N E o F H x) (h : AM P N E ops n (tailsOf (i, none) ps) ((d, x) :: F) H Q) (hg : gok ops o F = true := by exact rfl) (hd : o.dst = some d := by exact rfl) (hN : d < N := by decide) : AM1 P N E ops o i none n ps F H Q := fun ho hh S ρ a w hR => by
 obtain ⟨h1, h2⟩ := hr S ρ a w hR
 refine wpM_r hh rfl ho fun K hK => ?_
 rw [if_pos (wanted_of (P := P) hg hR)]
 unfold Oper.still
 rw [h1]
 refine ⟨rfl, hK _ ?_⟩
 rw [hd]
 exact h S ρ _ w (hR.put hN h2)
theorem am_skip {P : Program} {i n d : Nat} {ps : List Plan} (hg : gd ops o F = some false) (hd : o.dst = some d) (hN : d < N) (h : AM P N E ops n (tailsOf (i, none) ps) ((d, un) :: F) H Q) : AM1 P N E ops o i none n ps F H Q := fun ho hh S ρ a w hR => by
 refine wpM_r hh rfl ho fun K hK => ?_
 have hw : ¬ Region.wanted o (yielded ops a.tmps) = true := by
  obtain ⟨j, b, oj, t, h1, h2, h3, ⟨b', h4, h5⟩ | ⟨h4, h5⟩⟩ := gd_of hg
  ·simp only [Region.wanted, h1, yielded_of hR h2 h3 h4]
   cases b <;> cases b' <;> simp_all
  ·simp [Region.wanted, h1, skipped_of hR h2 h3 h4]
 rw [if_neg hw, hd]
 exact hK _ (h S ρ _ w (hR.put hN (.c (.s _))))
theorem M5 {i n d : Nat} {v : AV} {ps : List Plan} (h : rdT N ops o F H = some (d, v)) (k : AM Tryz.prog N E ops n (tailsOf (i, none) ps) ((d, v) :: F) H Q) : AM1 Tryz.prog N E ops o i none n ps F H Q := by
 obtain ⟨h1, h2, ⟨rfl, h3⟩ | ⟨h3, h4⟩⟩ := rdT_of h
 ·exact am_skip h3 h1 h2 k
 ·exact am_rdg (rdV_of h4) k h3 h1 h2
theorem am_efg {P : Program} {F2 : Fm} {H2 : List OB} {i n : Nat} {U : List Nat} {ps : List Plan} (hr : Ef P N E o F H fun F' H' => F' = F2 ∧ H' = H2) (hU : ∀ j ∈ U, Ag P N E ops F2 H2 j) (h : AM P N E ops n (tailsOf (i, some U) ps) F2 H2 Q) (hg : gok ops o F = true := by exact rfl) : AM1 P N E ops o i (some U) n ps F H Q := fun ho hh S ρ a w hR => by
 refine wpM_e hh rfl ho fun K' hK => ?_
 rw [if_pos (wanted_of (P := P) hg hR)]
 refine effO_mono (fun a' w' hh => ?_) (hr S ρ a w hR)
 obtain ⟨S', ρ', F', H', ⟨h1, h2⟩, hR'⟩ := hh
 subst h1; subst h2
 exact hK _ _ (fun j hj => hU j hj S' ρ' a' w' hR') (h S' ρ' a' w' hR')
theorem WX3 {G A : Prop} (h : G) (hs : Hid G → A := by (intro h; refine dkm rfl rfl rfl ?_; (first | ((with_reducible refine kd 20 ?_); refine M5 rfl ?_) | ((with_reducible refine kd 4 ?_); first | refine M5 rfl ?_ | refine am_rdg YL ?_ | refine am_rdg YK ?_) | ((with_reducible refine kd 1 ?_); first | refine am_rdg Zeql ?_ | refine am_rdg Zadd ?_ | refine am_rdg Zlss ?_ | refine am_rdg Zneq ?_ | refine am_rdg Zsub ?_ | refine am_rdg Zmul ?_ | refine am_rdg Zgtr ?_ | refine am_rdg Zleq ?_ | refine am_rdg Zgeq ?_ | refine am_rdg Zquo ?_ | refine am_rdg Zqut ?_ | refine am_rdg Zquw ?_ | refine am_rdg Zrem ?_ | refine am_rdg Zrew ?_ | refine am_rdg Ynil ?_ | refine am_rdg Yeqb ?_ | refine am_rdg Yneb ?_ | refine am_rdg Yeqs ?_ | refine am_rdg Ynes ?_ | refine am_rdg Yads ?_) | ((with_reducible refine kd 2 ?_); first | refine am_efg Ysto (by (repeat first | exact ag_none | (refine ag_cons (by first | exact agT rfl rfl rfl rfl | exact agX (hr := YL) | exact agX (hr := YK) | exact agX (hr := YIj) | exact agX (hr := YJ) | exact agX (hr := YJo) | exact agX (hr := YI) | exact agX (hr := Ybld) | exact agAdd | exact agSub | exact agMul | exact agX (hr := Ysli) | exact agX (hr := Yslr) | exact agX (hr := Zquo) | exact agX (hr := Zqut) | exact agX (hr := Zrem) | exact agX (hr := Yidx) | exact agX (hr := Ylns) | exact agX (hr := Yeqs) | exact agX (hr := Ynes) | exact agX (hr := Zlss) | exact agX (hr := Zeql) | exact agX (hr := Zneq) | exact agX (hr := rd_min2 (ty := 0) rfl rfl rfl) | exact agX (hr := rd_max2 rfl rfl rfl)) ?_))) ?_ | refine am_efg Ystr (by (repeat first | exact ag_none | (refine ag_cons (by first | exact agT rfl rfl rfl rfl | exact agX (hr := YL) | exact agX (hr := YK) | exact agX (hr := YIj) | exact agX (hr := YJ) | exact agX (hr := YJo) | exact agX (hr := YI) | exact agX (hr := Ybld) | exact agAdd | exact agSub | exact agMul | exact agX (hr := Ysli) | exact agX (hr := Yslr) | exact agX (hr := Zquo) | exact agX (hr := Zqut) | exact agX (hr := Zrem) | exact agX (hr := Yidx) | exact agX (hr := Ylns) | exact agX (hr := Yeqs) | exact agX (hr := Ynes) | exact agX (hr := Zlss) | exact agX (hr := Zeql) | exact agX (hr := Zneq) | exact agX (hr := rd_min2 (ty := 0) rfl rfl rfl) | exact agX (hr := rd_max2 rfl rfl rfl)) ?_))) ?_) | ((with_reducible refine kd 3 ?_); first | refine am_rdg YI ?_ | refine am_rdg YJ ?_ | refine am_rdg YJo ?_) | ((with_reducible refine kd 14 ?_); first | refine M5 rfl ?_ | refine am_rdg Ylns ?_) | ((with_reducible refine kd 15 ?_); refine am_rdg Yidx ?_) | ((with_reducible refine kd 5 ?_); first | refine am_rdg Ysli ?_ | refine am_rdg Yslr ?_) | ((with_reducible refine kd 6 ?_); refine am_efg Ybsl (by (repeat first | exact ag_none | (refine ag_cons (by first | exact agT rfl rfl rfl rfl | exact agX (hr := YL) | exact agX (hr := YK) | exact agX (hr := YIj) | exact agX (hr := YJ) | exact agX (hr := YJo) | exact agX (hr := YI) | exact agX (hr := Ybld) | exact agAdd | exact agSub | exact agMul | exact agX (hr := Ysli) | exact agX (hr := Yslr) | exact agX (hr := Zquo) | exact agX (hr := Zqut) | exact agX (hr := Zrem) | exact agX (hr := Yidx) | exact agX (hr := Ylns) | exact agX (hr := Yeqs) | exact agX (hr := Ynes) | exact agX (hr := Zlss) | exact agX (hr := Zeql) | exact agX (hr := Zneq) | exact agX (hr := rd_min2 (ty := 0) rfl rfl rfl) | exact agX (hr := rd_max2 rfl rfl rfl)) ?_))) ?_) | ((with_reducible refine kd 7 ?_); refine am_efg Yall (by (repeat first | exact ag_none | (refine ag_cons (by first | exact agT rfl rfl rfl rfl | exact agX (hr := YL) | exact agX (hr := YK) | exact agX (hr := YIj) | exact agX (hr := YJ) | exact agX (hr := YJo) | exact agX (hr := YI) | exact agX (hr := Ybld) | exact agAdd | exact agSub | exact agMul | exact agX (hr := Ysli) | exact agX (hr := Yslr) | exact agX (hr := Zquo) | exact agX (hr := Zqut) | exact agX (hr := Zrem) | exact agX (hr := Yidx) | exact agX (hr := Ylns) | exact agX (hr := Yeqs) | exact agX (hr := Ynes) | exact agX (hr := Zlss) | exact agX (hr := Zeql) | exact agX (hr := Zneq) | exact agX (hr := rd_min2 (ty := 0) rfl rfl rfl) | exact agX (hr := rd_max2 rfl rfl rfl)) ?_))) ?_) | ((with_reducible refine kd 8 ?_); refine am_efg Zbox (by (repeat first | exact ag_none | (refine ag_cons (by first | exact agT rfl rfl rfl rfl | exact agX (hr := YL) | exact agX (hr := YK) | exact agX (hr := YIj) | exact agX (hr := YJ) | exact agX (hr := YJo) | exact agX (hr := YI) | exact agX (hr := Ybld) | exact agAdd | exact agSub | exact agMul | exact agX (hr := Ysli) | exact agX (hr := Yslr) | exact agX (hr := Zquo) | exact agX (hr := Zqut) | exact agX (hr := Zrem) | exact agX (hr := Yidx) | exact agX (hr := Ylns) | exact agX (hr := Yeqs) | exact agX (hr := Ynes) | exact agX (hr := Zlss) | exact agX (hr := Zeql) | exact agX (hr := Zneq) | exact agX (hr := rd_min2 (ty := 0) rfl rfl rfl) | exact agX (hr := rd_max2 rfl rfl rfl)) ?_))) ?_) | ((with_reducible refine kd 9 ?_); refine am_rdg Ybld ?_) | ((with_reducible refine kd 10 ?_); refine am_rdg Yneg ?_) | ((with_reducible refine kd 11 ?_); refine am_rdg Ymkf ?_) | ((with_reducible refine kd 12 ?_); refine am_efg Ymak (by (repeat first | exact ag_none | (refine ag_cons (by first | exact agT rfl rfl rfl rfl | exact agX (hr := YL) | exact agX (hr := YK) | exact agX (hr := YIj) | exact agX (hr := YJ) | exact agX (hr := YJo) | exact agX (hr := YI) | exact agX (hr := Ybld) | exact agAdd | exact agSub | exact agMul | exact agX (hr := Ysli) | exact agX (hr := Yslr) | exact agX (hr := Zquo) | exact agX (hr := Zqut) | exact agX (hr := Zrem) | exact agX (hr := Yidx) | exact agX (hr := Ylns) | exact agX (hr := Yeqs) | exact agX (hr := Ynes) | exact agX (hr := Zlss) | exact agX (hr := Zeql) | exact agX (hr := Zneq) | exact agX (hr := rd_min2 (ty := 0) rfl rfl rfl) | exact agX (hr := rd_max2 rfl rfl rfl)) ?_))) ?_) | ((with_reducible refine kd 13 ?_); first | refine am_rdg (rd_min2 (ty := 0) rfl rfl rfl) ?_ | refine am_rdg (rd_max2 rfl rfl rfl) ?_ | refine am_rdg (rd_min3 rfl rfl rfl rfl) ?_ | refine am_rdg (rd_max3 rfl rfl rfl rfl) ?_ | refine am_rdg (rd_min4 rfl rfl rfl rfl rfl) ?_)); exact h.out)) : A := hs ⟨h⟩
theorem WM {G A : Prop} (h : G) (hs : Hid G → A := by (intro h; (repeat refine WX3 ?_); exact h.out)) : A := hs ⟨h⟩
theorem WN {G A : Prop} (h : G) (hs : Hid G → A := by (intro h; (repeat refine WX3 ?_); refine am_nil ?_; (repeat with_reducible first | apply S1 | apply S2 | apply S3 | apply S4 | apply S5 | apply S6 | apply S7 | apply S8 | refine S0 rfl ?_ | apply SA | apply SB | apply SC); exact h.out)) : A := hs ⟨h⟩
theorem AGX {U : List Nat} (h : ∀ j ∈ U, Ag Tryz.prog N E ops F H j := by (repeat first | exact ag_none | (refine ag_cons (by first | exact agT rfl rfl rfl rfl | exact agX (hr := YL) | exact agX (hr := YK) | exact agX (hr := YIj) | exact agX (hr := YJ) | exact agX (hr := YJo) | exact agX (hr := YI) | exact agX (hr := Ybld) | exact agAdd | exact agSub | exact agMul | exact agX (hr := Ysli) | exact agX (hr := Yslr) | exact agX (hr := Zquo) | exact agX (hr := Zqut) | exact agX (hr := Zrem) | exact agX (hr := Yidx) | exact agX (hr := Ylns) | exact agX (hr := Yeqs) | exact agX (hr := Ynes) | exact agX (hr := Zlss) | exact agX (hr := Zeql) | exact agX (hr := Zneq) | exact agX (hr := rd_min2 (ty := 0) rfl rfl rfl) | exact agX (hr := rd_max2 rfl rfl rfl)) ?_))) : ∀ j ∈ U, Ag Tryz.prog N E ops F H j := h
end
end Go.Proofs.YtniolldgidgffaaGreatDoor

/- The logic over values: an array that was lent may give way to one that is new. -/
namespace Go.Proofs.YtniolldgidgffaaGreatDoor
open Go Go.RowKit
section
variable {N : Nat} {E : Env} {F : Fm} {H : List OB} {K : Fm → List OB → Prop}
end
section
variable {P : Program} {N : Nat} {E : Env} {F : Fm} {H : List OB} {K : Fm → List OB → Prop} {Q : Exit → Fm → List OB → Prop} {ops : Array Oper}
end
end Go.Proofs.YtniolldgidgffaaGreatDoor

/- Guarded effects of drawn regions. -/
namespace Go.Proofs.YtniolldgidgffaaGreatDoor
open Go Go.RowKit
section
variable {P : Program} {N : Nat} {E : Env} {F : Fm} {H : List OB} {o : Oper} {Q : Exit → Fm → List OB → Prop} {ops : Array Oper} {i : Nat} {L : List (Nat × Option (List Nat))}
end
end Go.Proofs.YtniolldgidgffaaGreatDoor

/- Strings in the logic over values: bytes as a slice of the call's own, and back; functions without a body. -/
namespace Go.Proofs.YtniolldgidgffaaGreatDoor
open Go Go.RowKit
section
variable {P : Program} {N : Nat} {E : Env} {F : Fm} {H : List OB} {o : Oper} {S : Nat → Prop} {ρ : List (Option Nat)} {a : Act} {w : World} {t : TypeId} {x y : Operand}
theorem rd_ext {f : FuncId} {fn : Func} {args : Array Operand} {tys : Array TypeId} {vs : List AV} {us : List Value} {r : Value} {e : Array Value → Sem Value} (ho : o.op = .call { callee := .value (.func f), args := args, argTypes := tys }) (hargs : evL F args.toList = some vs) (hus : ∀ ρ H, vs.map (AV.den ρ H) = us)
    (hf : P.funcs[f]? = some fn) (hname : (fn.name == "runtime.NumGoroutine") = false) (hb : fn.body.isNone = true) (hn : Extern.findNext fn = none) (he : Extern.find fn = some e) (hr : ∀ w, (e us.toArray).run P w = .ok r w) : Rd P N E o F H (.c (.s r)) := fun S ρ a w hR => by
 obtain ⟨h1, _⟩ := evL_spec hR hargs
 rw [hus] at h1
 have h2 : args.map a.eval = us.toArray := by
  apply Array.ext'
  simpa using h1
 refine ⟨?_, .c (.s _)⟩
 have h3 : a.eval (.func f) = .func (.func f) #[] #[] := rfl
 simp [execOp, ho, resolve, h2, h3, Deferred.ofValue, invoke, run_callFunc_extern hf hname hb hn he, hr, AV.den, CV.den]
def idxB (c : UInt8) : List UInt8 → Nat → Int
 | [], _ => -1
 | b :: l, i => if b = c then i else idxB c l (i + 1)
theorem find_idxB {l : List UInt8} {c : UInt8} : ∀ (n i : Nat), i + n = l.length → (match (List.range' i n).find? (fun i => (bst l)[i]! == c) with | some i => (i : Int) | none => -1) = idxB c (l.drop i) i
 | 0, i, h => by rw [List.drop_eq_nil_of_le (by omega)]; rfl
 | n + 1, i, h => by
  have hi : i < l.length := by omega
  rw [List.drop_eq_getElem_cons hi, List.range'_succ, List.find?_cons]
  have hg : (bst l)[i]! = l[i] := by
   have h2 : i < (bst l).size := by rw [bst_size]; exact hi
   rw [getElem!_pos (bst l) i h2]
   rfl
  rw [hg, idxB]
  by_cases hc : l[i] = c
  ·rw [if_pos hc, hc]; simp
  ·rw [if_neg hc, show (l[i] == c) = false by simpa using hc]
   exact find_idxB n (i + 1) (by omega)
theorem firstIdx_eq (l : List UInt8) (c : UInt8) : firstIdx (bst l) c = idxB c l 0 := by
 have := find_idxB (l := l) (c := c) l.length 0 (by omega)
 rw [List.drop_zero] at this
 rw [← this]
 unfold firstIdx
 rw [bst_size, List.range_eq_range']
 cases (List.range' 0 l.length).find? fun i => (bst l)[i]! == c <;> rfl
theorem idxB_neg {c : UInt8} : ∀ {l : List UInt8} {i : Nat}, (0 ≤ idxB c l i ↔ c ∈ l)
 | [], i => by simp [idxB]
 | b :: l, i => by
  unfold idxB
  split
  ·rename_i h; simp [h]
  ·rename_i h; rw [idxB_neg]; simp [Ne.symm h]
end
end Go.Proofs.YtniolldgidgffaaGreatDoor

/- Cells, plain: spots, least and greatest, the normal form. -/
namespace Go.Proofs.YtniolldgidgffaaGreatDoor
def mnL : List Int → Int
 | [] => 0
 | [a] => a
 | a :: b :: l => min a (mnL (b :: l))
def mxL : List Int → Int
 | [] => 0
 | [a] => a
 | a :: b :: l => max a (mxL (b :: l))
theorem mnL_cons {a : Int} {l : List Int} (h : l ≠ []) : mnL (a :: l) = min a (mnL l) := by
 cases l with
 | nil => exact absurd rfl h
 | cons b l => rfl
theorem mxL_cons {a : Int} {l : List Int} (h : l ≠ []) : mxL (a :: l) = max a (mxL l) := by
 cases l with
 | nil => exact absurd rfl h
 | cons b l => rfl
theorem mnL_snoc {a : Int} : ∀ {l : List Int}, l ≠ [] → mnL (l ++ [a]) = min (mnL l) a
 | [], h => absurd rfl h
 | [b], _ => rfl
 | b :: c :: l, _ => by
  have := mnL_snoc (a := a) (l := c :: l) (by simp)
  have e : mnL (b :: c :: l ++ [a]) = min b (mnL (c :: l ++ [a])) := rfl
  have e2 : mnL (b :: c :: l) = min b (mnL (c :: l)) := rfl
  rw [e, this, e2]
  omega
theorem mxL_snoc {a : Int} : ∀ {l : List Int}, l ≠ [] → mxL (l ++ [a]) = max (mxL l) a
 | [], h => absurd rfl h
 | [b], _ => rfl
 | b :: c :: l, _ => by
  have := mxL_snoc (a := a) (l := c :: l) (by simp)
  have e : mxL (b :: c :: l ++ [a]) = max b (mxL (c :: l ++ [a])) := rfl
  have e2 : mxL (b :: c :: l) = max b (mxL (c :: l)) := rfl
  rw [e, this, e2]
  omega
theorem mnL_spec : ∀ {l : List Int}, l ≠ [] → mnL l ∈ l ∧ ∀ x ∈ l, mnL l ≤ x
 | [], h => absurd rfl h
 | [a], _ => ⟨by simp [mnL], by simp [mnL]⟩
 | a :: b :: l, _ => by
  obtain ⟨h1, h2⟩ := mnL_spec (l := b :: l) (by simp)
  rw [mnL_cons (by simp)]
  refine ⟨?_, fun x hx => ?_⟩
  ·rcases Int.le_total a (mnL (b :: l)) with h | h
   ·rw [Int.min_eq_left h]; exact List.mem_cons_self
   ·rw [Int.min_eq_right h]; exact List.mem_cons_of_mem _ h1
  ·rcases List.mem_cons.1 hx with rfl | hx
   ·exact Int.min_le_left _ _
   ·exact Int.le_trans (Int.min_le_right _ _) (h2 x hx)
theorem mxL_spec : ∀ {l : List Int}, l ≠ [] → mxL l ∈ l ∧ ∀ x ∈ l, x ≤ mxL l
 | [], h => absurd rfl h
 | [a], _ => ⟨by simp [mxL], by simp [mxL]⟩
 | a :: b :: l, _ => by
  obtain ⟨h1, h2⟩ := mxL_spec (l := b :: l) (by simp)
  rw [mxL_cons (by simp)]
  refine ⟨?_, fun x hx => ?_⟩
  ·rcases Int.le_total a (mxL (b :: l)) with h | h
   ·rw [Int.max_eq_right h]; exact List.mem_cons_of_mem _ h1
   ·rw [Int.max_eq_left h]; exact List.mem_cons_self
  ·rcases List.mem_cons.1 hx with rfl | hx
   ·exact Int.le_max_left _ _
   ·exact Int.le_trans (h2 x hx) (Int.le_max_right _ _)
theorem mnL_mem {l l' : List Int} (h : ∀ x, x ∈ l ↔ x ∈ l') : mnL l = mnL l' := by
 by_cases e : l = []
 ·have : l' = [] := List.eq_nil_iff_forall_not_mem.2 fun x hx => by rw [← h, e] at hx; cases hx
  rw [e, this]
 ·have e' : l' ≠ [] := fun e' => by
   obtain ⟨h1, _⟩ := mnL_spec e
   rw [h, e'] at h1; cases h1
  obtain ⟨h1, h2⟩ := mnL_spec e
  obtain ⟨h3, h4⟩ := mnL_spec e'
  exact Int.le_antisymm (h2 _ ((h _).2 h3)) (h4 _ ((h _).1 h1))
theorem mxL_mem {l l' : List Int} (h : ∀ x, x ∈ l ↔ x ∈ l') : mxL l = mxL l' := by
 by_cases e : l = []
 ·have : l' = [] := List.eq_nil_iff_forall_not_mem.2 fun x hx => by rw [← h, e] at hx; cases hx
  rw [e, this]
 ·have e' : l' ≠ [] := fun e' => by
   obtain ⟨h1, _⟩ := mxL_spec e
   rw [h, e'] at h1; cases h1
  obtain ⟨h1, h2⟩ := mxL_spec e
  obtain ⟨h3, h4⟩ := mxL_spec e'
  exact Int.le_antisymm (h4 _ ((h _).1 h1)) (h2 _ ((h _).2 h3))
structure Cel where
 st : Int
 x : Int
 y : Int
 rows : List (List UInt8)
abbrev Spot := Int × Int
def hitR (x y : Int) : List UInt8 → List Spot
 | [] => []
 | b :: r => if b = 35 then (x, y) :: hitR (x + 1) y r else hitR (x + 1) y r
def hitC (x y : Int) : List (List UInt8) → List Spot
 | [] => []
 | r :: rs => hitR x y r ++ hitC x (y + 1) rs
def covL (c : Cel) : List Spot := hitC (c.x.tdiv c.st) (c.y.tdiv c.st) c.rows
theorem hitR_mem {y : Int} {p : Spot} : ∀ {r : List UInt8} {x : Int}, p ∈ hitR x y r ↔ ∃ k : Nat, r[k]? = some 35 ∧ p = (x + k, y)
 | [], x => by simp [hitR]
 | b :: r, x => by
  have ih := hitR_mem (y := y) (p := p) (r := r) (x := x + 1)
  have e : (∃ k : Nat, (b :: r)[k]? = some 35 ∧ p = (x + k, y)) ↔ (b = 35 ∧ p = (x, y)) ∨ ∃ k : Nat, r[k]? = some 35 ∧ p = (x + 1 + k, y) := by
   constructor
   ·rintro ⟨k, h1, h2⟩
    cases k with
    | zero => exact .inl ⟨by simpa using h1, by simpa using h2⟩
    | succ k => exact .inr ⟨k, by simpa using h1, by rw [h2]; congr 1; omega⟩
   ·rintro (⟨h1, h2⟩ | ⟨k, h1, h2⟩)
    ·exact ⟨0, by simp [h1], by simp [h2]⟩
    ·exact ⟨k + 1, by simpa using h1, by rw [h2]; congr 1; omega⟩
  rw [e, hitR]
  split
  ·rename_i hb; rw [List.mem_cons, ih]; simp [hb]
  ·rename_i hb; rw [ih]; simp [hb]
theorem hitC_mem {x : Int} {p : Spot} : ∀ {rs : List (List UInt8)} {y : Int}, p ∈ hitC x y rs ↔ ∃ (i k : Nat) (r : List UInt8), rs[i]? = some r ∧ r[k]? = some 35 ∧ p = (x + k, y + i)
 | [], y => by simp [hitC]
 | r :: rs, y => by
  have ih := hitC_mem (x := x) (p := p) (rs := rs) (y := y + 1)
  rw [hitC, List.mem_append, hitR_mem, ih]
  constructor
  ·rintro (⟨k, h1, h2⟩ | ⟨i, k, r', h1, h2, h3⟩)
   ·exact ⟨0, k, r, rfl, h1, by rw [h2]; simp⟩
   ·exact ⟨i + 1, k, r', by simpa using h1, h2, by rw [h3]; congr 1; omega⟩
  ·rintro ⟨i, k, r', h1, h2, h3⟩
   cases i with
   | zero => simp only [List.getElem?_cons_zero, Option.some.injEq] at h1; subst h1; exact .inl ⟨k, h2, by rw [h3]; simp⟩
   | succ i => exact .inr ⟨i, k, r', by simpa using h1, h2, by rw [h3]; congr 1; omega⟩
theorem hitR_append {y : Int} : ∀ {r s : List UInt8} {x : Int}, hitR x y (r ++ s) = hitR x y r ++ hitR (x + r.length) y s
 | [], s, x => by simp [hitR]
 | b :: r, s, x => by
  rw [List.cons_append, hitR, hitR, hitR_append]
  have : x + 1 + (r.length : Int) = x + ((b :: r).length : Int) := by simp; omega
  rw [this]
  split <;> simp
theorem hitC_append {x : Int} : ∀ {r s : List (List UInt8)} {y : Int}, hitC x y (r ++ s) = hitC x y r ++ hitC x (y + r.length) s
 | [], s, y => by simp [hitC]
 | b :: r, s, y => by
  rw [List.cons_append, hitC, hitC, hitC_append]
  have : y + 1 + (r.length : Int) = y + ((b :: r).length : Int) := by simp; omega
  rw [this, List.append_assoc]
abbrev cols (L : List Spot) : List Int := L.map Prod.fst
abbrev rws (L : List Spot) : List Int := L.map Prod.snd
def x0 (L : List Spot) : Int := mnL (cols L)
def x1 (L : List Spot) : Int := mxL (cols L)
def y0 (L : List Spot) : Int := mnL (rws L)
def y1 (L : List Spot) : Int := mxL (rws L)
def rowB (L : List Spot) (x y : Int) (w : Nat) : List UInt8 := (List.range w).map fun k => if (x + (k : Nat), y) ∈ L then 35 else 46
def celN (st : Int) (L : List Spot) : Cel := if L = [] then ⟨st, 0, 0, []⟩ else ⟨st, x0 L * st, y0 L * st, (List.range (y1 L - y0 L + 1).toNat).map fun i => rowB L (x0 L) (y0 L + (i : Nat)) (x1 L - x0 L + 1).toNat⟩
theorem celN_mem {st : Int} {L L' : List Spot} (h : ∀ p, p ∈ L ↔ p ∈ L') : celN st L = celN st L' := by
 have hc : ∀ x, x ∈ cols L ↔ x ∈ cols L' := fun x => by simp only [cols, List.mem_map, h]
 have hr : ∀ x, x ∈ rws L ↔ x ∈ rws L' := fun x => by simp only [rws, List.mem_map, h]
 have e : (L = []) ↔ (L' = []) := by rw [List.eq_nil_iff_forall_not_mem, List.eq_nil_iff_forall_not_mem]; exact forall_congr' fun p => not_congr (h p)
 have hb : ∀ x y w, rowB L x y w = rowB L' x y w := fun x y w => by unfold rowB; exact List.map_congr_left fun k _ => by simp only [h]
 unfold celN x0 x1 y0 y1
 simp only [mnL_mem hc, mxL_mem hc, mnL_mem hr, mxL_mem hr, hb, e]
theorem x0_le {L : List Spot} {p : Spot} (h : p ∈ L) : x0 L ≤ p.1 ∧ p.1 ≤ x1 L ∧ y0 L ≤ p.2 ∧ p.2 ≤ y1 L := by
 have h1 : p.1 ∈ cols L := List.mem_map.2 ⟨p, h, rfl⟩
 have h2 : p.2 ∈ rws L := List.mem_map.2 ⟨p, h, rfl⟩
 exact ⟨(mnL_spec (List.ne_nil_of_mem h1)).2 _ h1, (mxL_spec (List.ne_nil_of_mem h1)).2 _ h1, (mnL_spec (List.ne_nil_of_mem h2)).2 _ h2, (mxL_spec (List.ne_nil_of_mem h2)).2 _ h2⟩
theorem x0_at {L : List Spot} (h : L ≠ []) : (∃ p ∈ L, p.1 = x0 L) ∧ (∃ p ∈ L, p.1 = x1 L) ∧ (∃ p ∈ L, p.2 = y0 L) ∧ (∃ p ∈ L, p.2 = y1 L) := by
 have hc : cols L ≠ [] := by simpa [cols] using h
 have hr : rws L ≠ [] := by simpa [rws] using h
 have fc : ∀ x, x ∈ cols L → ∃ p ∈ L, p.1 = x := fun x h => by obtain ⟨p, h1, h2⟩ := List.mem_map.1 h; exact ⟨p, h1, h2⟩
 have fr : ∀ x, x ∈ rws L → ∃ p ∈ L, p.2 = x := fun x h => by obtain ⟨p, h1, h2⟩ := List.mem_map.1 h; exact ⟨p, h1, h2⟩
 exact ⟨fc _ (mnL_spec hc).1, fc _ (mxL_spec hc).1, fr _ (mnL_spec hr).1, fr _ (mxL_spec hr).1⟩
theorem covL_celN {st : Int} {L : List Spot} (hst : 0 < st) {p : Spot} : p ∈ covL (celN st L) ↔ p ∈ L := by
 unfold celN covL
 split
 ·rename_i h; subst h; simp [hitC]
 ·rename_i h
  simp only [Int.mul_tdiv_cancel _ (show st ≠ 0 by omega)]
  rw [hitC_mem]
  constructor
  ·rintro ⟨i, k, r, h1, h2, rfl⟩
   rw [List.getElem?_map] at h1
   obtain ⟨i', hi, rfl⟩ := Option.map_eq_some_iff.1 h1
   obtain rfl : i = i' := by have := List.getElem?_eq_some_iff.1 hi; simpa using this.2
   unfold rowB at h2
   rw [List.getElem?_map] at h2
   obtain ⟨k', hk, h3⟩ := Option.map_eq_some_iff.1 h2
   obtain rfl : k = k' := by have := List.getElem?_eq_some_iff.1 hk; simpa using this.2
   split at h3
   ·assumption
   ·cases h3
  ·intro hp
   obtain ⟨h1, h2, h3, h4⟩ := x0_le hp
   obtain ⟨a, b⟩ := p
   simp only at h1 h2 h3 h4
   refine ⟨(b - y0 L).toNat, (a - x0 L).toNat, rowB L (x0 L) (y0 L + ((b - y0 L).toNat : Nat)) (x1 L - x0 L + 1).toNat, ?_, ?_, ?_⟩
   ·rw [List.getElem?_map, List.getElem?_range (by omega)]; rfl
   ·unfold rowB
    rw [List.getElem?_map, List.getElem?_range (by omega)]
    simp only [Option.map_some, Option.some.injEq]
    rw [if_pos]
    rw [show x0 L + ((a - x0 L).toNat : Int) = a by omega, show y0 L + ((b - y0 L).toNat : Int) = b by omega]
    exact hp
   ·rw [show x0 L + ((a - x0 L).toNat : Int) = a by omega, show y0 L + ((b - y0 L).toNat : Int) = b by omega]
end Go.Proofs.YtniolldgidgffaaGreatDoor
