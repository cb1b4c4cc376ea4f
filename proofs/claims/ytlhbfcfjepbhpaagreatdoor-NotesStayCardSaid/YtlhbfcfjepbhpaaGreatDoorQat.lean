/- strings.Trim with a set of ASCII letters, by value. -/
import Derived.Test.YtlhbfcfjepbhpaaGreatDoorQao
import Derived.Laws.IdiomStrings
import Derived.Laws.BytesString
import Derived.Laws.Externs
import Derived.Test.YtlhbfcfjepbhpaaGreatDoorQap
import Derived.Test.YtlhbfcfjepbhpaaGreatDoorQal
import Derived.Test.YtlhbfcfjepbhpaaGreatDoorQaq
set_option linter.unusedSimpArgs false
set_option linter.unusedVariables false
namespace Go.Proofs.YtlhbfcfjepbhpaaGreatDoor
open Go Go.RowKit
section
variable {P : Program} {N : Nat} {E : Env} {F : Fm} {H : List OB} {o : Oper} {S : Nat → Prop} {ρ : List (Option Nat)} {a : Act} {w : World} {t : TypeId} {x y : Operand}
theorem rd_ext {f : FuncId} {fn : Func} {args : Array Operand} {tys : Array TypeId} {vs : List AV} {us : List Value} {r : Value} {e : Array Value → Sem Value} (ho : o.op = .call { callee := .value (.func f), args := args, argTypes := tys }) (hargs : evL F args.toList = some vs) (hus : ∀ ρ H, vs.map (AV.den ρ H) = us)
    (hf : P.funcs[f]? = some fn) (hname : (fn.name == "runtime.NumGoroutine") = false) (hb : fn.body.isNone = true) (hn : Extern.findNext fn = none) (he : Extern.find fn = some e) (hr : ∀ w, (e us.toArray).run P w = .ok r w) : Rd P N E o F H (.c (.s r)) := fun S ρ a w hR => by
 obtain ⟨h1, _⟩ := evL_spec hR hargs
 rw [hus] at h1
 have h2 : args.map a.eval = us.toArray := by
  apply Array.ext'
  simpa using h1
 refine ⟨?_, .c (.s _)⟩
 have h3 : a.eval (.func f) = .func (.func f) #[] #[] := rfl
 simp [execOp, ho, resolve, h2, h3, Deferred.ofValue, invoke, run_callFunc_extern hf hname hb hn he, hr, AV.den, CV.den]
def idxB (c : UInt8) : List UInt8 → Nat → Int
 | [], _ => -1
 | b :: l, i => if b = c then i else idxB c l (i + 1)
theorem find_idxB {l : List UInt8} {c : UInt8} : ∀ (n i : Nat), i + n = l.length → (match (List.range' i n).find? (fun i => (bst l)[i]! == c) with | some i => (i : Int) | none => -1) = idxB c (l.drop i) i
 | 0, i, h => by rw [List.drop_eq_nil_of_le (by omega)]; rfl
 | n + 1, i, h => by
  have hi : i < l.length := by omega
  rw [List.drop_eq_getElem_cons hi, List.range'_succ, List.find?_cons]
  have hg : (bst l)[i]! = l[i] := by
   have h2 : i < (bst l).size := by rw [zy1]; exact hi
   rw [getElem!_pos (bst l) i h2]
   rfl
  rw [hg, idxB]
  by_cases hc : l[i] = c
  ·rw [if_pos hc, hc]; simp
  ·rw [if_neg hc, show (l[i] == c) = false by simpa using hc]
   exact find_idxB n (i + 1) (by omega)
theorem firstIdx_eq (l : List UInt8) (c : UInt8) : firstIdx (bst l) c = idxB c l 0 := by
 have := find_idxB (l := l) (c := c) l.length 0 (by omega)
 rw [List.drop_zero] at this
 rw [← this]
 unfold firstIdx
 rw [zy1, List.range_eq_range']
 cases (List.range' 0 l.length).find? fun i => (bst l)[i]! == c <;> rfl
theorem idxB_neg {c : UInt8} : ∀ {l : List UInt8} {i : Nat}, (0 ≤ idxB c l i ↔ c ∈ l)
 | [], i => by simp [idxB]
 | b :: l, i => by
  unfold idxB
  split
  ·rename_i h; simp [h]
  ·rename_i h; rw [idxB_neg]; simp [Ne.symm h]
end
end Go.Proofs.YtlhbfcfjepbhpaaGreatDoor
namespace Go.Proofs.YtlhbfcfjepbhpaaGreatDoor
open Go Go.RowKit
set_option maxRecDepth 100000
section
variable {P : Program} {N : Nat} {E : Env} {F : Fm} {H : List OB} {o : Oper}
end
section
variable {N : Nat} {E : Env} {F : Fm} {H : List OB} {o : Oper}
theorem Yslr {t e : TypeId} {sz : Nat} {x : Operand} {lo hi : Option Operand} {l h : Nat} {v : Value} {rows : List (List CV)} (ho : o.op = .slice t x lo hi none := by exact rfl) (ht : bE.get t = some (e, sz) := by exact rfl) (hx : ev F x = some (.c (.r v rows)) := by exact rfl) (hlo : (lo = none ∧ l = 0) ∨ ∃ y kd z, lo = some y ∧ ev F y = some (.c (.s (.int kd z))) ∧ z = l := by first | exact .inl ⟨rfl, rfl⟩ | exact .inr ⟨_, _, _, rfl, rfl, by first | rfl | omega⟩)
    (hhi : (hi = none ∧ h = rows.length) ∨ ∃ y kd z, hi = some y ∧ ev F y = some (.c (.s (.int kd z))) ∧ z = h := by first | exact .inl ⟨rfl, rfl⟩ | exact .inr ⟨_, _, _, rfl, rfl, by first | rfl | omega⟩) (hrow : ∀ row ∈ rows, row.length = sz := by assumption) (hlh : l ≤ h := by omega) (hhc : h ≤ rows.length := by omega) : Rd Tryz.prog N E o F H (.c (.r (subV v l h sz) ((rows.take h).drop l))) := rd_slicer ho (KE ht) hx hrow hlo hhi hlh hhc
variable {Q : Exit → Fm → List OB → Prop} {ops : Array Oper}
def AM1 (P : Program) (N : Nat) (E : Env) (ops : Array Oper) (o : Oper) (i : Nat) (U : Option (List Nat)) (n : Nat) (ps : List Plan) (F : Fm) (H : List OB) (Q : Exit → Fm → List OB → Prop) : Prop := ops[i]? = some o → headsOf ps = [(i, U)] → AM P N E ops (n + 1) ps F H Q
theorem dkm {P : Program} {k i n : Nat} {U : Option (List Nat)} {ps : List Plan} (hh : headsOf ps = [(i, U)]) (hi : ops[i]? = some o) (ho : okc ops o F = some k) (h : KD k (AM1 P N E ops o i U n ps F H Q)) : AM P N E ops (n + 1) ps F H Q := (show AM1 P N E ops o i U n ps F H Q from h) hi hh
theorem zT {P : Program} {i n d : Nat} {x : AV} {ps : List Plan} (hr : Rd P N E o F H x) (h : AM P N E ops n (tailsOf (i, none) ps) ((d, x) :: F) H Q) (hg : gok ops o F = true := by exact rfl) (hd : o.dst = some d := by exact rfl) (hN : d < N := by decide) : AM1 P N E ops o i none n ps F H Q := fun ho hh S ρ a w hR => by
 obtain ⟨h1, h2⟩ := hr S ρ a w hR
 refine wpM_r hh rfl ho fun K hK => ?_
 rw [if_pos (zS2 (P := P) hg hR)]
 unfold Oper.still
 rw [h1]
 refine ⟨rfl, hK _ ?_⟩
 rw [hd]
 exact h S ρ _ w (hR.put hN h2)
theorem am_skip {P : Program} {i n d : Nat} {ps : List Plan} (hg : gd ops o F = some false) (hd : o.dst = some d) (hN : d < N) (h : AM P N E ops n (tailsOf (i, none) ps) ((d, un) :: F) H Q) : AM1 P N E ops o i none n ps F H Q := fun ho hh S ρ a w hR => by
 refine wpM_r hh rfl ho fun K hK => ?_
 have hw : ¬ Region.wanted o (yielded ops a.tmps) = true := by
  obtain ⟨j, b, oj, t, h1, h2, h3, ⟨b', h4, h5⟩ | ⟨h4, h5⟩⟩ := gd_of hg
  ·simp only [Region.wanted, h1, zG1 hR h2 h3 h4]
   cases b <;> cases b' <;> simp_all
  ·simp [Region.wanted, h1, zf3 hR h2 h3 h4]
 rw [if_neg hw, hd]
 exact hK _ (h S ρ _ w (hR.put hN (.c (.s _))))
theorem M5 {i n d : Nat} {v : AV} {ps : List Plan} (h : rdT N ops o F H = some (d, v)) (k : AM Tryz.prog N E ops n (tailsOf (i, none) ps) ((d, v) :: F) H Q) : AM1 Tryz.prog N E ops o i none n ps F H Q := by
 obtain ⟨h1, h2, ⟨rfl, h3⟩ | ⟨h3, h4⟩⟩ := rdT_of h
 ·exact am_skip h3 h1 h2 k
 ·exact zT (zk2 h4) k h3 h1 h2
theorem am_efg {P : Program} {F2 : Fm} {H2 : List OB} {i n : Nat} {U : List Nat} {ps : List Plan} (hr : Ef P N E o F H fun F' H' => F' = F2 ∧ H' = H2) (hU : ∀ j ∈ U, Ag P N E ops F2 H2 j) (h : AM P N E ops n (tailsOf (i, some U) ps) F2 H2 Q) (hg : gok ops o F = true := by exact rfl) : AM1 P N E ops o i (some U) n ps F H Q := fun ho hh S ρ a w hR => by
 refine wpM_e hh rfl ho fun K' hK => ?_
 rw [if_pos (zS2 (P := P) hg hR)]
 refine zl1 (fun a' w' hh => ?_) (hr S ρ a w hR)
 obtain ⟨S', ρ', F', H', ⟨h1, h2⟩, hR'⟩ := hh
 subst h1; subst h2
 exact hK _ _ (fun j hj => hU j hj S' ρ' a' w' hR') (h S' ρ' a' w' hR')
theorem WX3 {G A : Prop} (h : G) (hs : Hid G → A := by (intro h; refine dkm rfl rfl rfl ?_; (first | ((with_reducible refine kd 20 ?_); refine M5 rfl ?_) | ((with_reducible refine kd 4 ?_); first | refine M5 rfl ?_ | refine zT YL ?_ | refine zT YK ?_ | refine zT YP ?_) | ((with_reducible refine kd 1 ?_); first | refine zT Zeql ?_ | refine zT Zadd ?_ | refine zT Zlss ?_ | refine zT Zneq ?_ | refine zT Zsub ?_ | refine zT Zmul ?_ | refine zT Zgtr ?_ | refine zT Zleq ?_ | refine zT Zgeq ?_ | refine zT Zquo ?_ | refine zT Zqut ?_ | refine zT Zquw ?_ | refine zT Zrem ?_ | refine zT Zrew ?_ | refine zT Ynil ?_ | refine zT Yeqb ?_ | refine zT Yneb ?_ | refine zT Yeqs ?_ | refine zT Ynes ?_ | refine zT Yads ?_ | refine zT Ypn ?_ | refine zT Ype ?_) | ((with_reducible refine kd 2 ?_); first | refine am_efg Ysto (by (repeat first | exact zk | (refine zo (by first | exact agT rfl rfl rfl rfl | exact agX (hr := YL) | exact agX (hr := YK) | exact agX (hr := YIj) | exact agX (hr := YJ) | exact agX (hr := YJo) | exact agX (hr := YI) | exact agX (hr := Ybld) | exact agAdd | exact agSub | exact agMul | exact agX (hr := Ysli) | exact agX (hr := Yslr) | exact agX (hr := Zquo) | exact agX (hr := Zqut) | exact agX (hr := Zrem) | exact agX (hr := Yidx) | exact agX (hr := Ylns) | exact agX (hr := Yeqs) | exact agX (hr := Ynes) | exact agX (hr := Zlss) | exact agX (hr := Zeql) | exact agX (hr := Zneq) | exact agX (hr := zo1 (ty := 0) rfl rfl rfl) | exact agX (hr := zp1 rfl rfl rfl) | exact agX (hr := YP) | exact agLk | exact agSe | exact agSn) ?_))) ?_ | refine am_efg Ystr (by (repeat first | exact zk | (refine zo (by first | exact agT rfl rfl rfl rfl | exact agX (hr := YL) | exact agX (hr := YK) | exact agX (hr := YIj) | exact agX (hr := YJ) | exact agX (hr := YJo) | exact agX (hr := YI) | exact agX (hr := Ybld) | exact agAdd | exact agSub | exact agMul | exact agX (hr := Ysli) | exact agX (hr := Yslr) | exact agX (hr := Zquo) | exact agX (hr := Zqut) | exact agX (hr := Zrem) | exact agX (hr := Yidx) | exact agX (hr := Ylns) | exact agX (hr := Yeqs) | exact agX (hr := Ynes) | exact agX (hr := Zlss) | exact agX (hr := Zeql) | exact agX (hr := Zneq) | exact agX (hr := zo1 (ty := 0) rfl rfl rfl) | exact agX (hr := zp1 rfl rfl rfl) | exact agX (hr := YP) | exact agLk | exact agSe | exact agSn) ?_))) ?_ | refine am_efg Ystp (by (repeat first | exact zk | (refine zo (by first | exact agT rfl rfl rfl rfl | exact agX (hr := YL) | exact agX (hr := YK) | exact agX (hr := YIj) | exact agX (hr := YJ) | exact agX (hr := YJo) | exact agX (hr := YI) | exact agX (hr := Ybld) | exact agAdd | exact agSub | exact agMul | exact agX (hr := Ysli) | exact agX (hr := Yslr) | exact agX (hr := Zquo) | exact agX (hr := Zqut) | exact agX (hr := Zrem) | exact agX (hr := Yidx) | exact agX (hr := Ylns) | exact agX (hr := Yeqs) | exact agX (hr := Ynes) | exact agX (hr := Zlss) | exact agX (hr := Zeql) | exact agX (hr := Zneq) | exact agX (hr := zo1 (ty := 0) rfl rfl rfl) | exact agX (hr := zp1 rfl rfl rfl) | exact agX (hr := YP) | exact agLk | exact agSe | exact agSn) ?_))) ?_) | ((with_reducible refine kd 3 ?_); first | refine zT YI ?_ | refine zT YJ ?_ | refine zT YJo ?_) | ((with_reducible refine kd 14 ?_); first | refine M5 rfl ?_ | refine zT Ylns ?_) | ((with_reducible refine kd 15 ?_); refine zT Yidx ?_) | ((with_reducible refine kd 5 ?_); first | refine zT Ysli ?_ | refine zT Yslr ?_) | ((with_reducible refine kd 6 ?_); refine am_efg Ybsl (by (repeat first | exact zk | (refine zo (by first | exact agT rfl rfl rfl rfl | exact agX (hr := YL) | exact agX (hr := YK) | exact agX (hr := YIj) | exact agX (hr := YJ) | exact agX (hr := YJo) | exact agX (hr := YI) | exact agX (hr := Ybld) | exact agAdd | exact agSub | exact agMul | exact agX (hr := Ysli) | exact agX (hr := Yslr) | exact agX (hr := Zquo) | exact agX (hr := Zqut) | exact agX (hr := Zrem) | exact agX (hr := Yidx) | exact agX (hr := Ylns) | exact agX (hr := Yeqs) | exact agX (hr := Ynes) | exact agX (hr := Zlss) | exact agX (hr := Zeql) | exact agX (hr := Zneq) | exact agX (hr := zo1 (ty := 0) rfl rfl rfl) | exact agX (hr := zp1 rfl rfl rfl) | exact agX (hr := YP) | exact agLk | exact agSe | exact agSn) ?_))) ?_) | ((with_reducible refine kd 7 ?_); refine am_efg Yall (by (repeat first | exact zk | (refine zo (by first | exact agT rfl rfl rfl rfl | exact agX (hr := YL) | exact agX (hr := YK) | exact agX (hr := YIj) | exact agX (hr := YJ) | exact agX (hr := YJo) | exact agX (hr := YI) | exact agX (hr := Ybld) | exact agAdd | exact agSub | exact agMul | exact agX (hr := Ysli) | exact agX (hr := Yslr) | exact agX (hr := Zquo) | exact agX (hr := Zqut) | exact agX (hr := Zrem) | exact agX (hr := Yidx) | exact agX (hr := Ylns) | exact agX (hr := Yeqs) | exact agX (hr := Ynes) | exact agX (hr := Zlss) | exact agX (hr := Zeql) | exact agX (hr := Zneq) | exact agX (hr := zo1 (ty := 0) rfl rfl rfl) | exact agX (hr := zp1 rfl rfl rfl) | exact agX (hr := YP) | exact agLk | exact agSe | exact agSn) ?_))) ?_) | ((with_reducible refine kd 8 ?_); refine am_efg Zbox (by (repeat first | exact zk | (refine zo (by first | exact agT rfl rfl rfl rfl | exact agX (hr := YL) | exact agX (hr := YK) | exact agX (hr := YIj) | exact agX (hr := YJ) | exact agX (hr := YJo) | exact agX (hr := YI) | exact agX (hr := Ybld) | exact agAdd | exact agSub | exact agMul | exact agX (hr := Ysli) | exact agX (hr := Yslr) | exact agX (hr := Zquo) | exact agX (hr := Zqut) | exact agX (hr := Zrem) | exact agX (hr := Yidx) | exact agX (hr := Ylns) | exact agX (hr := Yeqs) | exact agX (hr := Ynes) | exact agX (hr := Zlss) | exact agX (hr := Zeql) | exact agX (hr := Zneq) | exact agX (hr := zo1 (ty := 0) rfl rfl rfl) | exact agX (hr := zp1 rfl rfl rfl) | exact agX (hr := YP) | exact agLk | exact agSe | exact agSn) ?_))) ?_) | ((with_reducible refine kd 9 ?_); refine zT Ybld ?_) | ((with_reducible refine kd 10 ?_); refine zT Yneg ?_) | ((with_reducible refine kd 11 ?_); refine zT Ymkf ?_) | ((with_reducible refine kd 12 ?_); refine am_efg Ymak (by (repeat first | exact zk | (refine zo (by first | exact agT rfl rfl rfl rfl | exact agX (hr := YL) | exact agX (hr := YK) | exact agX (hr := YIj) | exact agX (hr := YJ) | exact agX (hr := YJo) | exact agX (hr := YI) | exact agX (hr := Ybld) | exact agAdd | exact agSub | exact agMul | exact agX (hr := Ysli) | exact agX (hr := Yslr) | exact agX (hr := Zquo) | exact agX (hr := Zqut) | exact agX (hr := Zrem) | exact agX (hr := Yidx) | exact agX (hr := Ylns) | exact agX (hr := Yeqs) | exact agX (hr := Ynes) | exact agX (hr := Zlss) | exact agX (hr := Zeql) | exact agX (hr := Zneq) | exact agX (hr := zo1 (ty := 0) rfl rfl rfl) | exact agX (hr := zp1 rfl rfl rfl) | exact agX (hr := YP) | exact agLk | exact agSe | exact agSn) ?_))) ?_) | ((with_reducible refine kd 13 ?_); first | refine zT (zo1 (ty := 0) rfl rfl rfl) ?_ | refine zT (zp1 rfl rfl rfl) ?_ | refine zT (rd_min3 rfl rfl rfl rfl) ?_ | refine zT (rd_max3 rfl rfl rfl rfl) ?_ | refine zT (rd_min4 rfl rfl rfl rfl rfl) ?_)); exact h.out)) : A := hs ⟨h⟩
theorem WM {G A : Prop} (h : G) (hs : Hid G → A := by (intro h; (repeat refine WX3 ?_); exact h.out)) : A := hs ⟨h⟩
theorem WN {G A : Prop} (h : G) (hs : Hid G → A := by (intro h; (repeat refine WX3 ?_); refine am_nil ?_; (repeat with_reducible first | apply S1 | apply S2 | apply S3 | apply S4 | apply S5 | apply S6 | apply S7 | apply S8 | refine S0 rfl ?_ | apply SA | apply SB | apply SC); exact h.out)) : A := hs ⟨h⟩
theorem AGX {U : List Nat} (h : ∀ j ∈ U, Ag Tryz.prog N E ops F H j := by (repeat first | exact zk | (refine zo (by first | exact agT rfl rfl rfl rfl | exact agX (hr := YL) | exact agX (hr := YK) | exact agX (hr := YIj) | exact agX (hr := YJ) | exact agX (hr := YJo) | exact agX (hr := YI) | exact agX (hr := Ybld) | exact agAdd | exact agSub | exact agMul | exact agX (hr := Ysli) | exact agX (hr := Yslr) | exact agX (hr := Zquo) | exact agX (hr := Zqut) | exact agX (hr := Zrem) | exact agX (hr := Yidx) | exact agX (hr := Ylns) | exact agX (hr := Yeqs) | exact agX (hr := Ynes) | exact agX (hr := Zlss) | exact agX (hr := Zeql) | exact agX (hr := Zneq) | exact agX (hr := zo1 (ty := 0) rfl rfl rfl) | exact agX (hr := zp1 rfl rfl rfl) | exact agX (hr := YP) | exact agLk | exact agSe | exact agSn) ?_))) : ∀ j ∈ U, Ag Tryz.prog N E ops F H j := h
end
end Go.Proofs.YtlhbfcfjepbhpaaGreatDoor
namespace Go.Proofs.YtlhbfcfjepbhpaaGreatDoor
open Go Go.RowKit
section
variable {N : Nat} {E : Env} {F : Fm} {H : List OB} {K : Fm → List OB → Prop}
theorem zu3 {P : Program} {c : Code} {Q : Exit → Fm → List OB → Prop} (h : AW P N E c F H (fun e F H => Wk N E F H (Q e))) : AW P N E c F H Q := fun S ρ a w hR n =>
 wpIn_mono (h S ρ a w hR n) fun _ a' w' ⟨S1, ρ1, F1, H1, h1, hR1⟩ => by
  obtain ⟨S2, ρ2, F2, H2, h2, hR2⟩ := h1 S1 ρ1 a' w' hR1
  exact ⟨S2, ρ2, F2, H2, h2, hR2⟩
end
section
variable {P : Program} {N : Nat} {E : Env} {F : Fm} {H : List OB} {K : Fm → List OB → Prop} {Q : Exit → Fm → List OB → Prop} {ops : Array Oper}
theorem at_wk {L : List (Nat × Option (List Nat))} (h : Wk N E F H K) (hk : ∀ F' H', K F' H' → AT P N E ops L F' H' Q) : AT P N E ops L F H Q := fun S ρ a w hR => by
 obtain ⟨S', ρ', F', H', h1, h2⟩ := h S ρ a w hR
 exact hk F' H' h1 S' ρ' a w h2
theorem am_wk {n : Nat} {ps : List Plan} (h : Wk N E F H K) (hk : ∀ F' H', K F' H' → AM P N E ops n ps F' H' Q) : AM P N E ops n ps F H Q := fun S ρ a w hR => by
 obtain ⟨S', ρ', F', H', h1, h2⟩ := h S ρ a w hR
 exact hk F' H' h1 S' ρ' a w h2
end
end Go.Proofs.YtlhbfcfjepbhpaaGreatDoor
namespace Go.Proofs.YtlhbfcfjepbhpaaGreatDoor
open Go Go.RowKit
section
variable {P : Program} {N : Nat} {E : Env} {F : Fm} {H : List OB} {o : Oper} {S : Nat → Prop} {ρ : List (Option Nat)} {a : Act} {w : World}
def arrSz (P : Program) (t : TypeId) : Option (Nat × TypeId × Nat) :=
 match P.underlying t with
 | some (.array n e) => (P.info? e).map fun i => (n, e, i.size)
 | _ => none
theorem arrSz_spec {t e : TypeId} {n sz : Nat} (h : arrSz P t = some (n, e, sz)) : (underlying t).run P w = .ok (.array n e) w ∧ (sizeOf e).run P w = .ok sz w := by
 unfold arrSz at h
 cases hu : P.underlying t with
 | none => rw [hu] at h; cases h
 | some d =>
  rw [hu] at h
  cases d <;> simp only [reduceCtorEq] at h
  rename_i n' e'
  cases hi : P.info? e' with
  | none => rw [hi] at h; cases h
  | some i =>
   rw [hi] at h
   simp only [Option.map_some, Option.some.injEq, Prod.mk.injEq] at h
   obtain ⟨rfl, rfl, rfl⟩ := h
   exact ⟨by unfold underlying; simp [hu], by simp [sizeOf, typeInfo, hi]⟩
theorem rd_ixa {t e : TypeId} {x ix : Operand} {b k j n i sz : Nat} {kd : IntKind} {z : Int} (ho : o.op = .indexAddr t x ix) (ht : arrSz P t = some (n, e, sz)) (hx : ev F x = some (.p b k j)) (hix : ev F ix = some (.c (.s (.int kd z)))) (hz : z = i) (hi : i < n) :
    Rd P N E o F H (.p b k (j + i * sz)) := fun S ρ a w hR => by
 obtain ⟨h1, h2⟩ := hR.ev hx
 have h3 := (hR.ev hix).1
 simp only [AV.den, CV.den] at h3
 obtain ⟨hu, hs⟩ := arrSz_spec (w := w) ht
 cases h2 with
 | p g0 g =>
  obtain ⟨B, hB⟩ := Option.isSome_iff_exists.1 g
  refine ⟨?_, .p g0 g⟩
  simp only [execOp, ho, h1, h3, AV.den, hB, Option.map_some, hz, Sem.run_bind, Instr.indexAt, asIntOf, hu, Result.andThen_ok, Sem.run_pure, Instr.sureAddr]
  rw [if_pos (by omega)]
  simp only [Sem.run_bind, hs, Result.andThen_ok, Sem.run_pure, Int.toNat_natCast]
  unfold Addr.add
  split
  ·rename_i h0; rw [h0]; rfl
  ·simp only [Nat.add_assoc]
mutual
/-- Pointers to the block's cells, without rows. -/
def AV.nk (b : Nat) : AV → Bool
 | .p b' k _ => b' != b || k == 0
 | .a l => AV.nkL b l
 | .t l => AV.nkL b l
 | .f _ l => AV.nkL b l
 | _ => true
def AV.nkL (b : Nat) : List AV → Bool
 | [] => true
 | x :: l => AV.nk b x && AV.nkL b l
end
def OB.nk (b : Nat) : OB → Bool
 | .box l => AV.nkL b l
 | .boxt _ l => AV.nkL b l
 | .eqv x _ => AV.nk b x
 | _ => true
end
end Go.Proofs.YtlhbfcfjepbhpaaGreatDoor
-- NEWM
namespace Go.Proofs.YtlhbfcfjepbhpaaGreatDoor
open Go Go.RowKit
set_option maxRecDepth 100000
def ascL (l : List UInt8) : List AV := (List.range 256).map fun i => .c (B (l.any fun c => c.toNat == i))
theorem zw1 (l : List UInt8) : (ascL l).length = 256 := by simp [ascL]
theorem ascL_nil : (List.replicate 256 (Value.bool false)).map (fun v => AV.c (cvOf v)) = ascL [] := by
 rw [List.map_replicate, ascL]
 refine List.ext_getElem (by rw [List.length_replicate, List.length_map, List.length_range]) fun i h1 h2 => ?_
 rw [List.getElem_replicate, List.getElem_map]
 rfl
theorem ascL_at (l : List UInt8) (b : UInt8) : (ascL l).drop (0 + b.toNat * 1) = .c (B (l.contains b)) :: (ascL l).drop (b.toNat + 1) := by
 have hb := b.toNat_lt
 rw [Nat.zero_add, Nat.mul_one, List.drop_eq_getElem_cons (by rw [zw1]; omega)]
 congr 1
 simp only [ascL, List.getElem_map, List.getElem_range]
 congr 2
 rw [Bool.eq_iff_iff, List.any_eq_true, List.contains_iff_mem]
 constructor
 ·rintro ⟨c, h1, h2⟩
  have h2 : c.toNat = b.toNat := by simpa using h2
  rwa [← UInt8.toNat_inj.1 h2]
 ·intro h; exact ⟨b, h, by simp⟩
theorem ascL_put (l : List UInt8) (b : UInt8) : putL (ascL l) (0 + b.toNat * 1) [.c (B true)] = ascL (l ++ [b]) := by
 have hb := b.toNat_lt
 rw [Nat.zero_add, Nat.mul_one]
 refine List.ext_getElem? fun i => ?_
 rw [zH2 (by rw [zw1]; simp; omega)]
 have hat : ∀ (m : List UInt8) (i : Nat), (ascL m)[i]? = if i < 256 then some (.c (B (m.any fun c => c.toNat == i))) else none := fun m i => by
  unfold ascL
  rw [List.getElem?_map]
  split
  ·rename_i h; rw [List.getElem?_range h]; rfl
  ·rename_i h; rw [List.getElem?_eq_none (by simpa using h)]; rfl
 rw [hat, hat]
 simp only [List.length_singleton]
 by_cases hi : b.toNat ≤ i ∧ i < b.toNat + 1
 ·obtain rfl : i = b.toNat := by omega
  rw [if_pos ⟨by omega, by omega⟩, if_pos (by omega), Nat.sub_self]
  simp
 ·rw [if_neg hi]
  have : (b.toNat == i) = false := by simp; omega
  simp [List.any_append, this]
theorem zf1 (l : List UInt8) : AV.cloL (ascL l) = true := by
 have : ∀ m : List CV, AV.cloL (m.map .c) = true := fun m => by
  induction m with
  | nil => rfl
  | cons x m ih => rw [List.map_cons, AV.cloL, AV.clo]; exact ih
 have e : ascL l = ((List.range 256).map fun i => B (l.any fun c => c.toNat == i)).map .c := by rw [ascL, List.map_map]; rfl
 rw [e]; exact this _
theorem ascL_one (l : List UInt8) : (ascL l).all AV.one = true := by
 rw [List.all_eq_true]
 intro x hx
 obtain ⟨i, _, rfl⟩ := List.mem_map.1 hx
 rfl
theorem ascL_all (m l : List UInt8) : putL (ascL m) 0 (ascL l) = ascL l := by
 unfold putL
 rw [List.take_zero, List.nil_append, Nat.zero_add, List.drop_eq_nil_of_le (by rw [zw1, zw1]; exact Nat.le_refl _), List.append_nil]
theorem aschas_v (l : List UInt8) (b : UInt8) : ACalls Tryz.prog 280 [.p 0 0 0, .c (.s (.int .u8 b.toNat))] [.box (ascL l)] fun u H => u = .c (B (l.contains b)) ∧ H = [.box (ascL l)] := by
 refine zg (N := 10) Tryz.func280 rfl rfl (by simp) fun E hE => ?_
 refine WA ?_
 refine ZR ?_
 iterate 3 refine WX1 ?_
 refine ZA (rd_ixa (i := b.toNat) (n := 256) (e := 4) (sz := 1) rfl (by kernel_rfl) rfl rfl rfl (by have := b.toNat_lt; omega)) ?_
 refine ZA (rd_loadn1 rfl (by kernel_rfl) rfl (Cells.box rfl) (ascL_at l b)) ?_
 refine WE ?_
 exact zf [some 0] [.box (ascL l)] rfl rfl rfl (by decide) (ZNK rfl) (fun _ => .box rfl (C0 (zf1 l)) .nil) ⟨rfl, rfl⟩
theorem makeascii_v (l : List UInt8) (h8 : ∀ b ∈ l, b < 128) (hl : l.length ≤ 1000000) : ACalls Tryz.prog 225 [.c (T l)] [] fun u H => u = .t [.a (ascL l), .c (B true)] ∧ H = [] := by
 refine zg (N := 21) Tryz.func225 rfl rfl (by simp) fun E hE => ?_
 refine ZR ?_
 refine zh rfl (ef_alloc (z := .agg (List.replicate 256 (Value.bool false)).toArray) (vs := List.replicate 256 (.bool false)) rfl rfl (by decide) (by kernel_rfl) rfl (by decide +kernel)) ?_
 rintro _ _ ⟨rfl, rfl⟩
 rw [ascL_nil]
 refine WE ?_
 refine WA ?_
 refine zC (fun m F H => ∃ k : Nat, m + k = l.length ∧ F = [(0, .c (T l)), (2, .p 0 0 0), (4, .c (I k))] ∧ H = [.box (ascL (l.take k))]) ?_ ?_
 ·refine zl [some 0] (fun _ => [(0, .c (T l)), (2, .p 0 0 0), (4, .c (I (0 : Nat)))]) (fun _ => [.box (ascL [])]) (by decide) (ZNL hE) ZCF (fun _ => .box rfl (C0 (zf1 _)) .nil) (fun _ => ?_)
  exact ⟨l.length, 0, by omega, rfl, rfl⟩
 rintro m F H ⟨k, hk, rfl, rfl⟩
 have hsz := zy1 l
 by_cases hlt : k < l.length
 ·obtain ⟨b, hb⟩ : ∃ b, l[k]? = some b := ⟨_, List.getElem?_eq_getElem hlt⟩
  have hb8 : ¬ (128 : Int) ≤ (b.toNat : Int) := by have := h8 b (List.mem_of_getElem? hb); have : b.toNat < 128 := this; omega
  have htk : l.take (k + 1) = l.take k ++ [b] := by rw [List.take_add_one, hb]; rfl
  refine WA ?_
  refine zb rfl ?_
  refine ZR ?_
  iterate 2 refine WX1 ?_
  refine ZA (zr3 (i := k) rfl Tryz.underlying9 rfl rfl rfl hb) ?_
  refine WE ?_
  refine WA ?_
  refine za rfl ?_
  refine ZZ ?_
  refine ZR ?_
  refine WX1 ?_
  refine ZA (rd_ixa (i := b.toNat) (n := 256) (e := 4) (sz := 1) rfl (by kernel_rfl) rfl rfl rfl (by have := b.toNat_lt; omega)) ?_
  refine zh rfl (zL3 (k := 1) rfl rfl rfl rfl rfl (by kernel_rfl) rfl (by rw [zw1]; have := b.toNat_lt; omega) rfl (ascL_put _ b) rfl) ?_
  rintro _ _ ⟨rfl, rfl⟩
  refine WE ?_
  refine WA ?_
  refine zl [some 0] (fun _ => [(0, .c (T l)), (2, .p 0 0 0), (4, .c (I (k + 1 : Nat)))]) (fun _ => [.box (ascL (l.take k ++ [b]))]) (by decide) (ZNL hE) ZCF (fun _ => .box rfl (C0 (zf1 _)) .nil) (fun _ => ?_)
  exact ⟨m - 1, by omega, k + 1, by omega, rfl, by rw [htk]⟩
 obtain rfl : k = l.length := by omega
 rw [List.take_length]
 refine WA ?_
 refine za rfl ?_
 refine ZZ ?_
 refine ZR ?_
 refine ZA (rd_loadn (k := 256) (cs' := ascL l) rfl (by kernel_rfl) rfl (Cells.box rfl) (by rw [List.drop_zero, List.take_of_length_le (by rw [zw1]; exact Nat.le_refl _)]) (by rw [List.drop_zero, zw1]; exact Nat.le_refl _)) ?_
 refine zh rfl (zL3 (k := 256) (l' := ascL l) rfl rfl rfl rfl rfl (by kernel_rfl) (zw1 l) (by rw [zw1]; exact Nat.le_refl _) (ascL_one l) (ascL_all _ l) rfl) ?_
 rintro _ _ ⟨rfl, rfl⟩
 refine WE ?_
 exact zZ (us := [.a (ascL l), .c (B true)]) [] (fun _ => .t [.a (ascL l), .c (B true)]) (fun _ => []) (.cella (n := 256) rfl (by kernel_rfl) (Cells.box rfl) (by rw [List.drop_zero, zw1]; exact Nat.le_refl _) (by rw [List.drop_zero, List.take_of_length_le (by rw [zw1]; exact Nat.le_refl _)]) (.tmp rfl .nil)) (by decide) (fun i hi => absurd hi (Nat.not_lt_zero i)) (fun _ => .tL (.cons (.aL (C0 (zf1 l))) (.cons (.c rfl) .nil))) (fun _ => .nil) (fun _ => ⟨rfl, rfl⟩)
end Go.Proofs.YtlhbfcfjepbhpaaGreatDoor
