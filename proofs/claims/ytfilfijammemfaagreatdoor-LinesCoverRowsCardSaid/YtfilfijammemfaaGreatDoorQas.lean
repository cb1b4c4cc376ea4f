/- Strings in the logic over values: bytes as a slice of the call's own, and back; functions without a body. -/
import Derived.Test.YtfilfijammemfaaGreatDoorQan
import Derived.Test.YtfilfijammemfaaGreatDoorQal
import Derived.Test.YtfilfijammemfaaGreatDoorQao
import Derived.Test.YtfilfijammemfaaGreatDoorQam
import Derived.Laws.IdiomStrings
import Derived.Laws.BytesString
import Derived.Laws.Externs
set_option linter.unusedSimpArgs false
set_option linter.unusedVariables false
namespace Go.Proofs.YtfilfijammemfaaGreatDoor
section
open Go Go.RowKit
set_option maxRecDepth 100000
section
variable {P : Program} {N : Nat} {E : Env} {F : Fm} {H : List OB} {o : Oper}
theorem ef_bslr {t e : TypeId} {sz n d : Nat} {ps : Array (Nat × Operand)} {rows : List (List CV)} {z : Value} (ho : o.op = .buildSlice t n ps) (hd : o.dst = some d) (hN : d < N) (ht : elemSz P t = some (e, sz)) (hp : Parts F 0 ps.toList rows) (hn : rows.length = n)
    (hz : (P.info? e).bind (·.zero) = some z) (hzs : z.cells.size = sz) (hr : rows.all (fun row => row.length == sz && row.all CV.one) = true) (hle : n * sz ≤ 16777216) (hnm : n ≤ 16777216) :
    Ef P N E o F H fun F' H' => ∃ v, F' = (d, .c (.r v rows)) :: F ∧ H' = H := fun S ρ a w hR => by
 obtain ⟨hu, i, hi, hs⟩ := zw ht
 have hu' : (underlying t).run P w = .ok (.slice e) w := by unfold underlying; simp [hu]
 have hsz : (sizeOf e).run P w = .ok sz w := by simp [sizeOf, typeInfo, hi, hs]
 have hzr : (zeroValue e).run P w = .ok z w := by
  unfold zeroValue typeInfo
  rw [hi] at hz
  simp only [Option.bind_some] at hz
  simp [hi, hz]
 subst hn
 have hr : ∀ row ∈ rows, row.length = sz ∧ ∀ u ∈ row, u.one = true := by simpa using hr
 obtain ⟨⟨cs', h1, h2, _, h4⟩, h5⟩ := fill_parts (sz := sz) hR hp ((Array.range (rows.length * sz)).map ((if rows.length * sz = 0 then #[] else z.cells)[· % (if rows.length * sz = 0 then #[] else z.cells).size]!)) (by simp) hr
 have hpm : (ps.map fun x => (x.1, a.eval x.2)).toList = ps.toList.map fun x => (x.1, a.eval x.2) := by simp
 have hlim : ¬ (rows.length * sz > 2 ^ 24) := by omega
 have hlim0 : ¬ ((0 : Nat) > 2 ^ 24) := by decide
 have hex : (execOp a.eval o).run P w = .ok (.value (.slice (some ⟨w.heap.size, 0, none⟩) rows.length rows.length)) (w.alloc (.cells cs' e)) := by
  by_cases hz0 : rows.length * sz = 0
  ·simp only [hz0, if_true] at h1
   simp only [execOp, ho, Instr.buildSlice, Sem.run_bind, hu', Result.andThen_ok, hsz, hlim0, if_false, hz0, if_true, Sem.run_pure, hpm, h1, newRow, run_newObj, World.alloc_eq]
  ·simp only [hz0, if_false] at h1
   simp only [execOp, ho, Instr.buildSlice, Sem.run_bind, hu', Result.andThen_ok, hsz, hlim, if_false, hz0, hzr, Sem.run_pure, hpm, h1, newRow, run_newObj, World.alloc_eq]
 unfold effO
 rw [hex]
 let S' : Nat → Prop := fun b => S b ∨ b = w.heap.size
 have hmo : Mo w S (w.alloc (.cells cs' e)) S' := fun b hb => ⟨.inl hb, Below.heap_alloc w _ b (hR.hp.sS b hb)⟩
 have hold : ∀ b, b < w.heap.size → (w.alloc (.cells cs' e)).heap[b]? = w.heap[b]? := fun b hb => Below.heap_alloc w _ b hb
 have hR2 : R N E S' ρ F H a (w.alloc (.cells cs' e)) := hR.ex (Ex.refl _ _) hmo
  ⟨hR.hp.len, hR.hp.nd, fun i B hi hS => by
   rcases hS with hS | hS
   ·exact hR.hp.ap i B hi hS
   ·have := hR.hp.lt i B hi; omega, fun i B hi => by have := hR.hp.lt i B hi; simp; omega, fun b hb => by
   rcases hb with hb | hb
   ·have := hR.hp.sS b hb; simp; omega
   ·subst hb; simp, fun i ob hob => (hR.hp.blk i ob hob).ex (Ex.refl _ _) hmo (fun B hB => hold B (hR.hp.lt i B hB)) (fun k B hB => hold B (hR.hp.pl.ps i k B ⟨ob, hob, hB⟩).2.2), hR.hp.pl.mono (fun _ _ _ h => h) (fun B hB => hB.elim .inl (fun h => .inr (.inl (by omega)))) (fun j _ h => .inl ⟨j, h⟩) (by simp)⟩
  (hR.st.alloc _) hR.nw (fun b hb => by
   rcases hb with hb | hb
   ·exact hR.nS b hb
   ·subst hb; exact .inr (.inl hR.st.size)) hR.pw
 refine ⟨S', ρ, _, _, ⟨.slice (some ⟨w.heap.size, 0, none⟩) rows.length rows.length, rfl, rfl⟩, ?_⟩
 rw [hd]
 refine hR2.put hN (.c (.r rows w.heap.size 0 sz rows.length rows.length rfl (Nat.le_refl _) (.inr rfl) (fun row hrow => (hr row hrow).1) (fun k j row u hk hj => ?_) (fun row hrow u hu => (h5 row hrow u hu).1.mono hmo)))
 have h6 := h4 k j row u hk hj
 rw [Nat.zero_add] at h6 ⊢
 rw [World.cell?, za2]
 simpa using h6
end
section
variable {N : Nat} {E : Env} {F : Fm} {H : List OB} {o : Oper}
theorem Ybsr {t e : TypeId} {sz k d : Nat} {ps : Array (Nat × Operand)} {rows : List (List CV)} {z : Value} {q : Nat × Nat} (ho : o.op = .buildSlice t k ps := by exact rfl) (ht : bE.get t = some (e, sz) := by exact rfl) (hz : bI.get e = some (z, q) := by exact rfl) (hp : partsC F 0 ps.toList = some rows := by exact rfl) (hd : o.dst = some d := by exact rfl) (hN : d < N := by decide) (hn : rows.length = k := by exact rfl) (hzs : z.cells.size = sz := by exact rfl) (hr : rows.all (fun row => row.length == sz && row.all CV.one) = true := by exact rfl) (hle : k * sz ≤ 16777216 := by simp) (hnm : k ≤ 16777216 := by simp) : Ef Tryz.prog N E o F H fun F' H' => ∃ v, F' = (d, .c (.r v rows)) :: F ∧ H' = H := ef_bslr ho hd hN (KE ht) (partsC_of hp) hn (KZ hz) hzs hr hle hnm
theorem Yslr {t e : TypeId} {sz : Nat} {x : Operand} {lo hi : Option Operand} {l h : Nat} {v : Value} {rows : List (List CV)} (ho : o.op = .slice t x lo hi none := by exact rfl) (ht : bE.get t = some (e, sz) := by exact rfl) (hx : ev F x = some (.c (.r v rows)) := by exact rfl) (hlo : (lo = none ∧ l = 0) ∨ ∃ y kd z, lo = some y ∧ ev F y = some (.c (.s (.int kd z))) ∧ z = l := by first | exact .inl ⟨rfl, rfl⟩ | exact .inr ⟨_, _, _, rfl, rfl, by first | rfl | omega⟩)
    (hhi : (hi = none ∧ h = rows.length) ∨ ∃ y kd z, hi = some y ∧ ev F y = some (.c (.s (.int kd z))) ∧ z = h := by first | exact .inl ⟨rfl, rfl⟩ | exact .inr ⟨_, _, _, rfl, rfl, by first | rfl | omega⟩) (hrow : ∀ row ∈ rows, row.length = sz := by assumption) (hlh : l ≤ h := by omega) (hhc : h ≤ rows.length := by omega) : Rd Tryz.prog N E o F H (.c (.r (subV v l h sz) ((rows.take h).drop l))) := rd_slicer ho (KE ht) hx hrow hlo hhi hlh hhc
variable {Q : Exit → Fm → List OB → Prop} {ops : Array Oper}
def AM1 (P : Program) (N : Nat) (E : Env) (ops : Array Oper) (o : Oper) (i : Nat) (U : Option (List Nat)) (n : Nat) (ps : List Plan) (F : Fm) (H : List OB) (Q : Exit → Fm → List OB → Prop) : Prop := ops[i]? = some o → headsOf ps = [(i, U)] → AM P N E ops (n + 1) ps F H Q
theorem dkm {P : Program} {k i n : Nat} {U : Option (List Nat)} {ps : List Plan} (hh : headsOf ps = [(i, U)]) (hi : ops[i]? = some o) (ho : okc ops o F = some k) (h : KD k (AM1 P N E ops o i U n ps F H Q)) : AM P N E ops (n + 1) ps F H Q := (show AM1 P N E ops o i U n ps F H Q from h) hi hh
theorem zH {P : Program} {i n d : Nat} {x : AV} {ps : List Plan} (hr : Rd P N E o F H x) (h : AM P N E ops n (tailsOf (i, none) ps) ((d, x) :: F) H Q) (hg : gok ops o F = true := by exact rfl) (hd : o.dst = some d := by exact rfl) (hN : d < N := by decide) : AM1 P N E ops o i none n ps F H Q := fun ho hh S ρ a w hR => by
 obtain ⟨h1, h2⟩ := hr S ρ a w hR
 refine wpM_r hh rfl ho fun K hK => ?_
 rw [if_pos (wanted_of (P := P) hg hR)]
 unfold Oper.still
 rw [h1]
 refine ⟨rfl, hK _ ?_⟩
 rw [hd]
 exact h S ρ _ w (hR.put hN h2)
theorem am_skip {P : Program} {i n d : Nat} {ps : List Plan} (hg : gd ops o F = some false) (hd : o.dst = some d) (hN : d < N) (h : AM P N E ops n (tailsOf (i, none) ps) ((d, un) :: F) H Q) : AM1 P N E ops o i none n ps F H Q := fun ho hh S ρ a w hR => by
 refine wpM_r hh rfl ho fun K hK => ?_
 have hw : ¬ Region.wanted o (yielded ops a.tmps) = true := by
  obtain ⟨j, b, oj, t, h1, h2, h3, ⟨b', h4, h5⟩ | ⟨h4, h5⟩⟩ := gd_of hg
  ·simp only [Region.wanted, h1, zH1 hR h2 h3 h4]
   cases b <;> cases b' <;> simp_all
  ·simp [Region.wanted, h1, skipped_of hR h2 h3 h4]
 rw [if_neg hw, hd]
 exact hK _ (h S ρ _ w (hR.put hN (.c (.s _))))
theorem M5 {i n d : Nat} {v : AV} {ps : List Plan} (h : rdT N ops o F H = some (d, v)) (k : AM Tryz.prog N E ops n (tailsOf (i, none) ps) ((d, v) :: F) H Q) : AM1 Tryz.prog N E ops o i none n ps F H Q := by
 obtain ⟨h1, h2, ⟨rfl, h3⟩ | ⟨h3, h4⟩⟩ := rdT_of h
 ·exact am_skip h3 h1 h2 k
 ·exact zH (rdV_of h4) k h3 h1 h2
theorem am_efg {P : Program} {F2 : Fm} {H2 : List OB} {i n : Nat} {U : List Nat} {ps : List Plan} (hr : Ef P N E o F H fun F' H' => F' = F2 ∧ H' = H2) (hU : ∀ j ∈ U, Ag P N E ops F2 H2 j) (h : AM P N E ops n (tailsOf (i, some U) ps) F2 H2 Q) (hg : gok ops o F = true := by exact rfl) : AM1 P N E ops o i (some U) n ps F H Q := fun ho hh S ρ a w hR => by
 refine wpM_e hh rfl ho fun K' hK => ?_
 rw [if_pos (wanted_of (P := P) hg hR)]
 refine zU (fun a' w' hh => ?_) (hr S ρ a w hR)
 obtain ⟨S', ρ', F', H', ⟨h1, h2⟩, hR'⟩ := hh
 subst h1; subst h2
 exact hK _ _ (fun j hj => hU j hj S' ρ' a' w' hR') (h S' ρ' a' w' hR')
theorem WX3 {G A : Prop} (h : G) (hs : Hid G → A := by (intro h; refine dkm rfl rfl rfl ?_; (first | ((with_reducible refine kd 20 ?_); refine M5 rfl ?_) | ((with_reducible refine kd 4 ?_); first | refine M5 rfl ?_ | refine zH YL ?_ | refine zH YK ?_) | ((with_reducible refine kd 1 ?_); first | refine zH Zeql ?_ | refine zH Zadd ?_ | refine zH Zlss ?_ | refine zH Zneq ?_ | refine zH Zsub ?_ | refine zH Zmul ?_ | refine zH Zgtr ?_ | refine zH Zleq ?_ | refine zH Zgeq ?_ | refine zH Zquo ?_ | refine zH Zqut ?_ | refine zH Zquw ?_ | refine zH Zrem ?_ | refine zH Zrew ?_ | refine zH Ynil ?_ | refine zH Yeqb ?_ | refine zH Yneb ?_ | refine zH Yeqs ?_ | refine zH Ynes ?_ | refine zH Yads ?_) | ((with_reducible refine kd 2 ?_); first | refine am_efg Ysto (by (repeat first | exact zm | (refine zj (by first | exact agT rfl rfl rfl rfl | exact agX (hr := YL) | exact agX (hr := YK) | exact agX (hr := YIj) | exact agX (hr := YJ) | exact agX (hr := YJo) | exact agX (hr := YI) | exact agX (hr := Ybld) | exact agAdd | exact agSub | exact agMul | exact agX (hr := Ysli) | exact agX (hr := Yslr) | exact agX (hr := Zquo) | exact agX (hr := Zqut) | exact agX (hr := Zrem) | exact agX (hr := Yidx) | exact agX (hr := Ylns) | exact agX (hr := Yeqs) | exact agX (hr := Ynes) | exact agX (hr := Zlss) | exact agX (hr := Zeql) | exact agX (hr := Zneq) | exact agX (hr := zm1 (ty := 0) rfl rfl rfl) | exact agX (hr := zn1 rfl rfl rfl)) ?_))) ?_ | refine am_efg Ystr (by (repeat first | exact zm | (refine zj (by first | exact agT rfl rfl rfl rfl | exact agX (hr := YL) | exact agX (hr := YK) | exact agX (hr := YIj) | exact agX (hr := YJ) | exact agX (hr := YJo) | exact agX (hr := YI) | exact agX (hr := Ybld) | exact agAdd | exact agSub | exact agMul | exact agX (hr := Ysli) | exact agX (hr := Yslr) | exact agX (hr := Zquo) | exact agX (hr := Zqut) | exact agX (hr := Zrem) | exact agX (hr := Yidx) | exact agX (hr := Ylns) | exact agX (hr := Yeqs) | exact agX (hr := Ynes) | exact agX (hr := Zlss) | exact agX (hr := Zeql) | exact agX (hr := Zneq) | exact agX (hr := zm1 (ty := 0) rfl rfl rfl) | exact agX (hr := zn1 rfl rfl rfl)) ?_))) ?_) | ((with_reducible refine kd 3 ?_); first | refine zH YI ?_ | refine zH YJ ?_ | refine zH YJo ?_) | ((with_reducible refine kd 14 ?_); first | refine M5 rfl ?_ | refine zH Ylns ?_) | ((with_reducible refine kd 15 ?_); refine zH Yidx ?_) | ((with_reducible refine kd 5 ?_); first | refine zH Ysli ?_ | refine zH Yslr ?_) | ((with_reducible refine kd 6 ?_); refine am_efg Ybsl (by (repeat first | exact zm | (refine zj (by first | exact agT rfl rfl rfl rfl | exact agX (hr := YL) | exact agX (hr := YK) | exact agX (hr := YIj) | exact agX (hr := YJ) | exact agX (hr := YJo) | exact agX (hr := YI) | exact agX (hr := Ybld) | exact agAdd | exact agSub | exact agMul | exact agX (hr := Ysli) | exact agX (hr := Yslr) | exact agX (hr := Zquo) | exact agX (hr := Zqut) | exact agX (hr := Zrem) | exact agX (hr := Yidx) | exact agX (hr := Ylns) | exact agX (hr := Yeqs) | exact agX (hr := Ynes) | exact agX (hr := Zlss) | exact agX (hr := Zeql) | exact agX (hr := Zneq) | exact agX (hr := zm1 (ty := 0) rfl rfl rfl) | exact agX (hr := zn1 rfl rfl rfl)) ?_))) ?_) | ((with_reducible refine kd 7 ?_); refine am_efg Yall (by (repeat first | exact zm | (refine zj (by first | exact agT rfl rfl rfl rfl | exact agX (hr := YL) | exact agX (hr := YK) | exact agX (hr := YIj) | exact agX (hr := YJ) | exact agX (hr := YJo) | exact agX (hr := YI) | exact agX (hr := Ybld) | exact agAdd | exact agSub | exact agMul | exact agX (hr := Ysli) | exact agX (hr := Yslr) | exact agX (hr := Zquo) | exact agX (hr := Zqut) | exact agX (hr := Zrem) | exact agX (hr := Yidx) | exact agX (hr := Ylns) | exact agX (hr := Yeqs) | exact agX (hr := Ynes) | exact agX (hr := Zlss) | exact agX (hr := Zeql) | exact agX (hr := Zneq) | exact agX (hr := zm1 (ty := 0) rfl rfl rfl) | exact agX (hr := zn1 rfl rfl rfl)) ?_))) ?_) | ((with_reducible refine kd 8 ?_); refine am_efg Zbox (by (repeat first | exact zm | (refine zj (by first | exact agT rfl rfl rfl rfl | exact agX (hr := YL) | exact agX (hr := YK) | exact agX (hr := YIj) | exact agX (hr := YJ) | exact agX (hr := YJo) | exact agX (hr := YI) | exact agX (hr := Ybld) | exact agAdd | exact agSub | exact agMul | exact agX (hr := Ysli) | exact agX (hr := Yslr) | exact agX (hr := Zquo) | exact agX (hr := Zqut) | exact agX (hr := Zrem) | exact agX (hr := Yidx) | exact agX (hr := Ylns) | exact agX (hr := Yeqs) | exact agX (hr := Ynes) | exact agX (hr := Zlss) | exact agX (hr := Zeql) | exact agX (hr := Zneq) | exact agX (hr := zm1 (ty := 0) rfl rfl rfl) | exact agX (hr := zn1 rfl rfl rfl)) ?_))) ?_) | ((with_reducible refine kd 9 ?_); refine zH Ybld ?_) | ((with_reducible refine kd 10 ?_); refine zH Yneg ?_) | ((with_reducible refine kd 11 ?_); refine zH Ymkf ?_) | ((with_reducible refine kd 12 ?_); refine am_efg Ymak (by (repeat first | exact zm | (refine zj (by first | exact agT rfl rfl rfl rfl | exact agX (hr := YL) | exact agX (hr := YK) | exact agX (hr := YIj) | exact agX (hr := YJ) | exact agX (hr := YJo) | exact agX (hr := YI) | exact agX (hr := Ybld) | exact agAdd | exact agSub | exact agMul | exact agX (hr := Ysli) | exact agX (hr := Yslr) | exact agX (hr := Zquo) | exact agX (hr := Zqut) | exact agX (hr := Zrem) | exact agX (hr := Yidx) | exact agX (hr := Ylns) | exact agX (hr := Yeqs) | exact agX (hr := Ynes) | exact agX (hr := Zlss) | exact agX (hr := Zeql) | exact agX (hr := Zneq) | exact agX (hr := zm1 (ty := 0) rfl rfl rfl) | exact agX (hr := zn1 rfl rfl rfl)) ?_))) ?_) | ((with_reducible refine kd 13 ?_); first | refine zH (zm1 (ty := 0) rfl rfl rfl) ?_ | refine zH (zn1 rfl rfl rfl) ?_ | refine zH (rd_min3 rfl rfl rfl rfl) ?_ | refine zH (rd_max3 rfl rfl rfl rfl) ?_ | refine zH (rd_min4 rfl rfl rfl rfl rfl) ?_)); exact h.out)) : A := hs ⟨h⟩
theorem WM {G A : Prop} (h : G) (hs : Hid G → A := by (intro h; (repeat refine WX3 ?_); exact h.out)) : A := hs ⟨h⟩
theorem WN {G A : Prop} (h : G) (hs : Hid G → A := by (intro h; (repeat refine WX3 ?_); refine am_nil ?_; (repeat with_reducible first | apply S1 | apply S2 | apply S3 | apply S4 | apply S5 | apply S6 | apply S7 | apply S8 | refine S0 rfl ?_ | apply SA | apply SB | apply SC); exact h.out)) : A := hs ⟨h⟩
theorem AGX {U : List Nat} (h : ∀ j ∈ U, Ag Tryz.prog N E ops F H j := by (repeat first | exact zm | (refine zj (by first | exact agT rfl rfl rfl rfl | exact agX (hr := YL) | exact agX (hr := YK) | exact agX (hr := YIj) | exact agX (hr := YJ) | exact agX (hr := YJo) | exact agX (hr := YI) | exact agX (hr := Ybld) | exact agAdd | exact agSub | exact agMul | exact agX (hr := Ysli) | exact agX (hr := Yslr) | exact agX (hr := Zquo) | exact agX (hr := Zqut) | exact agX (hr := Zrem) | exact agX (hr := Yidx) | exact agX (hr := Ylns) | exact agX (hr := Yeqs) | exact agX (hr := Ynes) | exact agX (hr := Zlss) | exact agX (hr := Zeql) | exact agX (hr := Zneq) | exact agX (hr := zm1 (ty := 0) rfl rfl rfl) | exact agX (hr := zn1 rfl rfl rfl)) ?_))) : ∀ j ∈ U, Ag Tryz.prog N E ops F H j := h
end
end
section
open Go Go.RowKit
section
variable {N : Nat} {E : Env} {F : Fm} {H : List OB} {K : Fm → List OB → Prop}
theorem wk_ghost {i : Nat} {x : AV} (hx : F.lookup i = some x) (h : ∀ ρ : List (Option Nat), K ((i, .c (.s (x.den ρ H))) :: F) (H ++ [.eqv x (x.den ρ H)])) : Wk N E F H K := fun S ρ a w hR => by
 have he := Ex.snoc (ρ := ρ) (H := H) hR.hp.len none (.eqv x (x.den ρ H))
 obtain ⟨h1, h2⟩ := hR.fr i x hx
 have hR2 : R N E S (ρ ++ [none]) F (H ++ [.eqv x (x.den ρ H)]) a w := by
  have hin : ∀ i k B, inP (H ++ [.eqv x (x.den ρ H)]) i k B → inP H i k B := fun i k B => inP_snoc (fun k B h => by obtain ⟨l, h⟩ := hasP_pool h; cases h)
  refine hR.ex he Mo.refl ⟨by simp [hR.hp.len], fun j j' B hj hj' => ?_, fun j B hj => ?_, fun j B hj => ?_, hR.hp.sS, fun j o ho => ?_, hR.hp.pl.mono hin (fun _ h => .inl h) (fun j B hj => ?_) (Nat.le_refl _)⟩ hR.st (fun j B hj => ?_) hR.nS (fun i k B h => hR.pw i k B (hin i k B h))
  rotate_left 4
  ·rw [zt] at hj
   split at hj
   ·cases hj
   ·exact .inl ⟨j, hj⟩
  rotate_right 4
  ·rw [zt] at hj hj'
   split at hj
   ·cases hj
   ·split at hj'
    ·cases hj'
    ·exact hR.hp.nd j j' B hj hj'
  ·rw [zt] at hj
   split at hj
   ·cases hj
   ·exact hR.hp.ap j B hj
  ·rw [zt] at hj
   split at hj
   ·cases hj
   ·exact hR.hp.lt j B hj
  ·rcases Nat.lt_or_ge j H.length with hlt | hge
   ·rw [List.getElem?_append_left hlt] at ho
    rw [zt, if_neg (by rw [hR.hp.len]; omega)]
    exact (hR.hp.blk j o ho).ex he Mo.refl (fun _ _ => rfl) (fun _ _ _ => rfl)
   ·rw [List.getElem?_append_right hge] at ho
    cases hq : j - H.length with
    | zero =>
     rw [hq] at ho
     simp only [List.getElem?_cons_zero, Option.some.injEq] at ho
     subst ho
     exact ⟨h2.den_ex he, h2.ex he Mo.refl⟩
    | succ n => rw [hq] at ho; simp at ho
  ·rw [zt] at hj
   split at hj
   ·cases hj
   ·exact hR.nw j B hj
 refine ⟨S, ρ ++ [none], _, _, h ρ, hR2.df, hR2.sz, fun j y hj => ?_, hR2.hp, hR2.st, hR2.nw, hR2.nS, hR2.pw, hR2.ln, hR2.pn⟩
 rw [List.lookup_cons] at hj
 split at hj
 ·rename_i he2
  obtain rfl : j = i := by simpa using he2
  injection hj with hj
  subst hj
  exact ⟨h1, .c (.s _)⟩
 ·exact hR2.fr j y hj
theorem wk_thaw {i b : Nat} {x : AV} {v : Value} (hx : F.lookup i = some (.c (.s v))) (hb : H[b]? = some (.eqv x v)) (h : K ((i, x) :: F) H) : Wk N E F H K := fun S ρ a w hR => by
 obtain ⟨h1, h2⟩ := hR.hp.blk b _ hb
 refine ⟨S, ρ, _, _, h, hR.df, hR.sz, fun j y hj => ?_, hR.hp, hR.st, hR.nw, hR.nS, hR.pw, hR.ln, hR.pn⟩
 rw [List.lookup_cons] at hj
 split at hj
 ·rename_i he2
  obtain rfl : j = i := by simpa using he2
  injection hj with hj
  subst hj
  exact ⟨by rw [h1]; exact (hR.fr j _ hx).1, h2⟩
 ·exact hR.fr j y hj
end
section
variable {P : Program} {N : Nat} {E : Env} {F : Fm} {H : List OB} {K : Fm → List OB → Prop} {Q : Exit → Fm → List OB → Prop} {ops : Array Oper}
theorem at_wk {L : List (Nat × Option (List Nat))} (h : Wk N E F H K) (hk : ∀ F' H', K F' H' → AT P N E ops L F' H' Q) : AT P N E ops L F H Q := fun S ρ a w hR => by
 obtain ⟨S', ρ', F', H', h1, h2⟩ := h S ρ a w hR
 exact hk F' H' h1 S' ρ' a w h2
theorem am_wk {n : Nat} {ps : List Plan} (h : Wk N E F H K) (hk : ∀ F' H', K F' H' → AM P N E ops n ps F' H' Q) : AM P N E ops n ps F H Q := fun S ρ a w hR => by
 obtain ⟨S', ρ', F', H', h1, h2⟩ := h S ρ a w hR
 exact hk F' H' h1 S' ρ' a w h2
theorem aw_ghost {i b k n cap : Nat} {c : Code} (hx : F.lookup i = some (.o b k n cap)) (h : ∀ A : Option Addr, AW P N E c ((i, .c (.s (.slice A n cap))) :: F) (H ++ [.eqv (.o b k n cap) (.slice A n cap)]) Q) : AW P N E c F H Q :=
 zC1 (wk_ghost (K := fun F' H' => ∃ A : Option Addr, F' = (i, .c (.s (.slice A n cap))) :: F ∧ H' = H ++ [.eqv (.o b k n cap) (.slice A n cap)]) hx fun ρ => ⟨_, rfl, rfl⟩) fun F' H' ⟨A, h1, h2⟩ => by subst h1; subst h2; exact h A
theorem aw_thaw {i b : Nat} {x : AV} {v : Value} {c : Code} (hx : F.lookup i = some (.c (.s v))) (hb : H[b]? = some (.eqv x v)) (h : AW P N E c ((i, x) :: F) H Q) : AW P N E c F H Q :=
 zC1 (wk_thaw (K := fun F' H' => F' = (i, x) :: F ∧ H' = H) hx hb ⟨rfl, rfl⟩) fun F' H' ⟨h1, h2⟩ => by subst h1; subst h2; exact h
theorem al_ghost {i b k n cap : Nat} {l : List Oper} (hx : F.lookup i = some (.o b k n cap)) (h : ∀ A : Option Addr, AL P N E ops l ((i, .c (.s (.slice A n cap))) :: F) (H ++ [.eqv (.o b k n cap) (.slice A n cap)]) Q) : AL P N E ops l F H Q :=
 al_wk (wk_ghost (K := fun F' H' => ∃ A : Option Addr, F' = (i, .c (.s (.slice A n cap))) :: F ∧ H' = H ++ [.eqv (.o b k n cap) (.slice A n cap)]) hx fun ρ => ⟨_, rfl, rfl⟩) fun F' H' ⟨A, h1, h2⟩ => by subst h1; subst h2; exact h A
theorem al_thaw {i b : Nat} {x : AV} {v : Value} {l : List Oper} (hx : F.lookup i = some (.c (.s v))) (hb : H[b]? = some (.eqv x v)) (h : AL P N E ops l ((i, x) :: F) H Q) : AL P N E ops l F H Q :=
 al_wk (wk_thaw (K := fun F' H' => F' = (i, x) :: F ∧ H' = H) hx hb ⟨rfl, rfl⟩) fun F' H' ⟨h1, h2⟩ => by subst h1; subst h2; exact h
theorem at_ghost {i b k n cap : Nat} {L : List (Nat × Option (List Nat))} (hx : F.lookup i = some (.o b k n cap)) (h : ∀ A : Option Addr, AT P N E ops L ((i, .c (.s (.slice A n cap))) :: F) (H ++ [.eqv (.o b k n cap) (.slice A n cap)]) Q) : AT P N E ops L F H Q :=
 at_wk (wk_ghost (K := fun F' H' => ∃ A : Option Addr, F' = (i, .c (.s (.slice A n cap))) :: F ∧ H' = H ++ [.eqv (.o b k n cap) (.slice A n cap)]) hx fun ρ => ⟨_, rfl, rfl⟩) fun F' H' ⟨A, h1, h2⟩ => by subst h1; subst h2; exact h A
theorem at_thaw {i b : Nat} {x : AV} {v : Value} {L : List (Nat × Option (List Nat))} (hx : F.lookup i = some (.c (.s v))) (hb : H[b]? = some (.eqv x v)) (h : AT P N E ops L ((i, x) :: F) H Q) : AT P N E ops L F H Q :=
 at_wk (wk_thaw (K := fun F' H' => F' = (i, x) :: F ∧ H' = H) hx hb ⟨rfl, rfl⟩) fun F' H' ⟨h1, h2⟩ => by subst h1; subst h2; exact h
theorem am_ghost {i b k n cap : Nat} {n0 : Nat} {ps : List Plan} (hx : F.lookup i = some (.o b k n cap)) (h : ∀ A : Option Addr, AM P N E ops n0 ps ((i, .c (.s (.slice A n cap))) :: F) (H ++ [.eqv (.o b k n cap) (.slice A n cap)]) Q) : AM P N E ops n0 ps F H Q :=
 am_wk (wk_ghost (K := fun F' H' => ∃ A : Option Addr, F' = (i, .c (.s (.slice A n cap))) :: F ∧ H' = H ++ [.eqv (.o b k n cap) (.slice A n cap)]) hx fun ρ => ⟨_, rfl, rfl⟩) fun F' H' ⟨A, h1, h2⟩ => by subst h1; subst h2; exact h A
theorem am_thaw {i b : Nat} {x : AV} {v : Value} {n0 : Nat} {ps : List Plan} (hx : F.lookup i = some (.c (.s v))) (hb : H[b]? = some (.eqv x v)) (h : AM P N E ops n0 ps ((i, x) :: F) H Q) : AM P N E ops n0 ps F H Q :=
 am_wk (wk_thaw (K := fun F' H' => F' = (i, x) :: F ∧ H' = H) hx hb ⟨rfl, rfl⟩) fun F' H' ⟨h1, h2⟩ => by subst h1; subst h2; exact h
end
theorem ZCG {p : Prop} (h : p := by intro _g; (repeat first | exact K0 | apply K1 rfl | apply K2 rfl rfl | apply K2 rfl (by first | assumption | (rw [Nat.zero_add]; assumption)) | apply K2 rfl (by simp) | apply CvH.eqv rfl | apply K3 | apply CvH.oth rfl (.map rfl) | apply CvH.oth rfl (.pool rfl) | apply CvH.oth rfl (.itr rfl rfl) | apply CvH.oth rfl (.sit rfl) | apply CvH.oth rfl (.bts rfl) | apply CvH.oth rfl .dead | refine CvH.oth rfl (.boxt ?_) ?_ | exact CvAL.nil | refine CvAL.cons ?_ ?_ | exact CvA.c rfl | exact CvA.p rfl | exact CvA.o rfl rfl | exact CvA.nil rfl | exact L0 | apply L1 | exact V1 rfl | exact V2 rfl | exact V3 rfl rfl | exact V4 | exact Cvt.mp rfl | exact V5 rfl | exact V3 rfl (by first | (simp; omega) | simp) | exact V1 (by first | (simp; omega) | simp) | exact V6 rfl rfl (by first | rfl | simp) (by simp) rfl | apply V7 | apply V8 | exact V9 (C0 (by assumption)) | apply V9); fail_if_success focus skip) : p := h
end
section
open Go Go.RowKit
section
variable {P : Program} {N : Nat} {E : Env} {F : Fm} {H : List OB} {o : Oper} {Q : Exit → Fm → List OB → Prop} {ops : Array Oper} {i : Nat} {L : List (Nat × Option (List Nat))}
theorem wanted_no {S : Nat → Prop} {ρ : List (Option Nat)} {a : Act} {w : World} (h : gd ops o F = some false) (hR : R N E S ρ F H a w) : Region.wanted o (yielded ops a.tmps) = false := by
 obtain ⟨j, b, oj, t, h1, h2, h3, ⟨b', h4, h5⟩ | ⟨h4, _⟩⟩ := gd_of h
 ·simp only [Region.wanted, h1, zH1 hR h2 h3 h4]
  cases b <;> cases b' <;> simp_all
 ·simp [Region.wanted, h1, skipped_of hR h2 h3 h4]
theorem at_efK {U : List Nat} {K : Fm → List OB → Prop} (ho : ops[i]? = some o) (hr : Ef P N E o F H K) (h : ∀ F' H', K F' H' → (∀ j ∈ U, Ag P N E ops F' H' j) ∧ AT P N E ops L F' H' Q) (hg : gok ops o F = true := by exact rfl) : AT P N E ops ((i, some U) :: L) F H Q := fun S ρ a w hR => by
 refine wpT_e ho fun K' hK => ?_
 rw [if_pos (wanted_of (P := P) hg hR)]
 refine zU (fun a' w' hh => ?_) (hr S ρ a w hR)
 obtain ⟨S', ρ', F', H', hk, hR'⟩ := hh
 obtain ⟨h1, h2⟩ := h F' H' hk
 exact hK _ _ (fun j hj => h1 j hj S' ρ' a' w' hR') (h2 S' ρ' a' w' hR')
theorem at_efN {U : List Nat} {d : Nat} (ho : ops[i]? = some o) (hg : gd ops o F = some false) (hd : o.dst = some d) (hN : d < N) (h : (∀ j ∈ U, Ag P N E ops ((d, un) :: F) H j) ∧ AT P N E ops L ((d, un) :: F) H Q) : AT P N E ops ((i, some U) :: L) F H Q := fun S ρ a w hR => by
 refine wpT_e ho fun K' hK => ?_
 rw [if_neg (by rw [wanted_no hg hR]; simp)]
 have hR' : R N E S ρ ((d, un) :: F) H (a.put o.dst undef) w := by rw [hd]; exact hR.put hN (.c (.s _))
 exact hK _ _ (fun j hj => h.1 j hj S ρ _ w hR') (h.2 S ρ _ w hR')
end
end
section
open Go Go.RowKit
section
variable {P : Program} {N : Nat} {E : Env} {F : Fm} {H : List OB} {o : Oper} {S : Nat → Prop} {ρ : List (Option Nat)} {a : Act} {w : World} {t : TypeId} {x y : Operand}
theorem rd_ext {f : FuncId} {fn : Func} {args : Array Operand} {tys : Array TypeId} {vs : List AV} {us : List Value} {r : Value} {e : Array Value → Sem Value} (ho : o.op = .call { callee := .value (.func f), args := args, argTypes := tys }) (hargs : evL F args.toList = some vs) (hus : ∀ ρ H, vs.map (AV.den ρ H) = us)
    (hf : P.funcs[f]? = some fn) (hname : (fn.name == "runtime.NumGoroutine") = false) (hb : fn.body.isNone = true) (hn : Extern.findNext fn = none) (he : Extern.find fn = some e) (hr : ∀ w, (e us.toArray).run P w = .ok r w) : Rd P N E o F H (.c (.s r)) := fun S ρ a w hR => by
 obtain ⟨h1, _⟩ := evL_spec hR hargs
 rw [hus] at h1
 have h2 : args.map a.eval = us.toArray := by
  apply Array.ext'
  simpa using h1
 refine ⟨?_, .c (.s _)⟩
 have h3 : a.eval (.func f) = .func (.func f) #[] #[] := rfl
 simp [execOp, ho, resolve, h2, h3, Deferred.ofValue, invoke, run_callFunc_extern hf hname hb hn he, hr, AV.den, CV.den]
def idxB (c : UInt8) : List UInt8 → Nat → Int
 | [], _ => -1
 | b :: l, i => if b = c then i else idxB c l (i + 1)
theorem find_idxB {l : List UInt8} {c : UInt8} : ∀ (n i : Nat), i + n = l.length → (match (List.range' i n).find? (fun i => (bst l)[i]! == c) with | some i => (i : Int) | none => -1) = idxB c (l.drop i) i
 | 0, i, h => by rw [List.drop_eq_nil_of_le (by omega)]; rfl
 | n + 1, i, h => by
  have hi : i < l.length := by omega
  rw [List.drop_eq_getElem_cons hi, List.range'_succ, List.find?_cons]
  have hg : (bst l)[i]! = l[i] := by
   have h2 : i < (bst l).size := by rw [zL1]; exact hi
   rw [getElem!_pos (bst l) i h2]
   rfl
  rw [hg, idxB]
  by_cases hc : l[i] = c
  ·rw [if_pos hc, hc]; simp
  ·rw [if_neg hc, show (l[i] == c) = false by simpa using hc]
   exact find_idxB n (i + 1) (by omega)
theorem firstIdx_eq (l : List UInt8) (c : UInt8) : firstIdx (bst l) c = idxB c l 0 := by
 have := find_idxB (l := l) (c := c) l.length 0 (by omega)
 rw [List.drop_zero] at this
 rw [← this]
 unfold firstIdx
 rw [zL1, List.range_eq_range']
 cases (List.range' 0 l.length).find? fun i => (bst l)[i]! == c <;> rfl
theorem idxB_neg {c : UInt8} : ∀ {l : List UInt8} {i : Nat}, (0 ≤ idxB c l i ↔ c ∈ l)
 | [], i => by simp [idxB]
 | b :: l, i => by
  unfold idxB
  split
  ·rename_i h; simp [h]
  ·rename_i h; rw [idxB_neg]; simp [Ne.symm h]
end
end
end Go.Proofs.YtfilfijammemfaaGreatDoor
