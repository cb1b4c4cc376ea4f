/- strings.Trim with a set of ASCII letters, by value. -/
import Derived.Test.YtlhbfcfjepbhpaaGreatDoorQap
import Derived.Test.YtlhbfcfjepbhpaaGreatDoorQal
import Derived.Test.YtlhbfcfjepbhpaaGreatDoorQau
import Derived.Test.YtlhbfcfjepbhpaaGreatDoorQaq
set_option linter.unusedSimpArgs false
set_option linter.unusedVariables false
namespace Go.Proofs.YtlhbfcfjepbhpaaGreatDoor
open Go Go.RowKit
set_option maxRecDepth 100000
section
variable {P : Program} {N : Nat} {E : Env} {F : Fm} {H : List OB} {o : Oper}
theorem ef_bslr {t e : TypeId} {sz n d : Nat} {ps : Array (Nat × Operand)} {rows : List (List CV)} {z : Value} (ho : o.op = .buildSlice t n ps) (hd : o.dst = some d) (hN : d < N) (ht : elemSz P t = some (e, sz)) (hp : Parts F 0 ps.toList rows) (hn : rows.length = n)
    (hz : (P.info? e).bind (·.zero) = some z) (hzs : z.cells.size = sz) (hr : rows.all (fun row => row.length == sz && row.all CV.one) = true) (hle : n * sz ≤ 16777216) (hnm : n ≤ 16777216) :
    Ef P N E o F H fun F' H' => ∃ v, F' = (d, .c (.r v rows)) :: F ∧ H' = H := fun S ρ a w hR => by
 obtain ⟨hu, i, hi, hs⟩ := zL ht
 have hu' : (underlying t).run P w = .ok (.slice e) w := by unfold underlying; simp [hu]
 have hsz : (sizeOf e).run P w = .ok sz w := by simp [sizeOf, typeInfo, hi, hs]
 have hzr : (zeroValue e).run P w = .ok z w := by
  unfold zeroValue typeInfo
  rw [hi] at hz
  simp only [Option.bind_some] at hz
  simp [hi, hz]
 subst hn
 have hr : ∀ row ∈ rows, row.length = sz ∧ ∀ u ∈ row, u.one = true := by simpa using hr
 obtain ⟨⟨cs', h1, h2, _, h4⟩, h5⟩ := fill_parts (sz := sz) hR hp ((Array.range (rows.length * sz)).map ((if rows.length * sz = 0 then #[] else z.cells)[· % (if rows.length * sz = 0 then #[] else z.cells).size]!)) (by simp) hr
 have hpm : (ps.map fun x => (x.1, a.eval x.2)).toList = ps.toList.map fun x => (x.1, a.eval x.2) := by simp
 have hlim : ¬ (rows.length * sz > 2 ^ 24) := by omega
 have hlim0 : ¬ ((0 : Nat) > 2 ^ 24) := by decide
 have hex : (execOp a.eval o).run P w = .ok (.value (.slice (some ⟨w.heap.size, 0, none⟩) rows.length rows.length)) (w.alloc (.cells cs' e)) := by
  by_cases hz0 : rows.length * sz = 0
  ·simp only [hz0, if_true] at h1
   simp only [execOp, ho, Instr.buildSlice, Sem.run_bind, hu', Result.andThen_ok, hsz, hlim0, if_false, hz0, if_true, Sem.run_pure, hpm, h1, newRow, run_newObj, World.alloc_eq]
  ·simp only [hz0, if_false] at h1
   simp only [execOp, ho, Instr.buildSlice, Sem.run_bind, hu', Result.andThen_ok, hsz, hlim, if_false, hz0, hzr, Sem.run_pure, hpm, h1, newRow, run_newObj, World.alloc_eq]
 unfold effO
 rw [hex]
 let S' : Nat → Prop := fun b => S b ∨ b = w.heap.size
 have hmo : Mo w S (w.alloc (.cells cs' e)) S' := fun b hb => ⟨.inl hb, Below.heap_alloc w _ b (hR.hp.sS b hb)⟩
 have hold : ∀ b, b < w.heap.size → (w.alloc (.cells cs' e)).heap[b]? = w.heap[b]? := fun b hb => Below.heap_alloc w _ b hb
 have hR2 : R N E S' ρ F H a (w.alloc (.cells cs' e)) := hR.ex (Ex.refl _ _) hmo
  ⟨hR.hp.len, hR.hp.nd, fun i B hi hS => by
   rcases hS with hS | hS
   ·exact hR.hp.ap i B hi hS
   ·have := hR.hp.lt i B hi; omega, fun i B hi => by have := hR.hp.lt i B hi; simp; omega, fun b hb => by
   rcases hb with hb | hb
   ·have := hR.hp.sS b hb; simp; omega
   ·subst hb; simp, fun i ob hob => (hR.hp.blk i ob hob).ex (Ex.refl _ _) hmo (fun B hB => hold B (hR.hp.lt i B hB)) (fun k B hB => hold B (hR.hp.pl.ps i k B ⟨ob, hob, hB⟩).2.2), hR.hp.pl.mono (fun _ _ _ h => h) (fun B hB => hB.elim .inl (fun h => .inr (.inl (by omega)))) (fun j _ h => .inl ⟨j, h⟩) (by simp)⟩
  (hR.st.alloc _) hR.nw (fun b hb => by
   rcases hb with hb | hb
   ·exact hR.nS b hb
   ·subst hb; exact .inr (.inl hR.st.size)) hR.pw
 refine ⟨S', ρ, _, _, ⟨.slice (some ⟨w.heap.size, 0, none⟩) rows.length rows.length, rfl, rfl⟩, ?_⟩
 rw [hd]
 refine hR2.put hN (.c (.r rows w.heap.size 0 sz rows.length rows.length rfl (Nat.le_refl _) (.inr rfl) (fun row hrow => (hr row hrow).1) (fun k j row u hk hj => ?_) (fun row hrow u hu => (h5 row hrow u hu).1.mono hmo)))
 have h6 := h4 k j row u hk hj
 rw [Nat.zero_add] at h6 ⊢
 rw [World.cell?, zH2]
 simpa using h6
end
section
variable {N : Nat} {E : Env} {F : Fm} {H : List OB} {o : Oper}
theorem Ybsr {t e : TypeId} {sz k d : Nat} {ps : Array (Nat × Operand)} {rows : List (List CV)} {z : Value} {q : Nat × Nat} (ho : o.op = .buildSlice t k ps := by exact rfl) (ht : bE.get t = some (e, sz) := by exact rfl) (hz : bI.get e = some (z, q) := by exact rfl) (hp : partsC F 0 ps.toList = some rows := by exact rfl) (hd : o.dst = some d := by exact rfl) (hN : d < N := by decide) (hn : rows.length = k := by exact rfl) (hzs : z.cells.size = sz := by exact rfl) (hr : rows.all (fun row => row.length == sz && row.all CV.one) = true := by exact rfl) (hle : k * sz ≤ 16777216 := by simp) (hnm : k ≤ 16777216 := by simp) : Ef Tryz.prog N E o F H fun F' H' => ∃ v, F' = (d, .c (.r v rows)) :: F ∧ H' = H := ef_bslr ho hd hN (KE ht) (partsC_of hp) hn (KZ hz) hzs hr hle hnm
theorem Yslr {t e : TypeId} {sz : Nat} {x : Operand} {lo hi : Option Operand} {l h : Nat} {v : Value} {rows : List (List CV)} (ho : o.op = .slice t x lo hi none := by exact rfl) (ht : bE.get t = some (e, sz) := by exact rfl) (hx : ev F x = some (.c (.r v rows)) := by exact rfl) (hlo : (lo = none ∧ l = 0) ∨ ∃ y kd z, lo = some y ∧ ev F y = some (.c (.s (.int kd z))) ∧ z = l := by first | exact .inl ⟨rfl, rfl⟩ | exact .inr ⟨_, _, _, rfl, rfl, by first | rfl | omega⟩)
    (hhi : (hi = none ∧ h = rows.length) ∨ ∃ y kd z, hi = some y ∧ ev F y = some (.c (.s (.int kd z))) ∧ z = h := by first | exact .inl ⟨rfl, rfl⟩ | exact .inr ⟨_, _, _, rfl, rfl, by first | rfl | omega⟩) (hrow : ∀ row ∈ rows, row.length = sz := by assumption) (hlh : l ≤ h := by omega) (hhc : h ≤ rows.length := by omega) : Rd Tryz.prog N E o F H (.c (.r (subV v l h sz) ((rows.take h).drop l))) := rd_slicer ho (KE ht) hx hrow hlo hhi hlh hhc
variable {Q : Exit → Fm → List OB → Prop} {ops : Array Oper}
def AM1 (P : Program) (N : Nat) (E : Env) (ops : Array Oper) (o : Oper) (i : Nat) (U : Option (List Nat)) (n : Nat) (ps : List Plan) (F : Fm) (H : List OB) (Q : Exit → Fm → List OB → Prop) : Prop := ops[i]? = some o → headsOf ps = [(i, U)] → AM P N E ops (n + 1) ps F H Q
theorem dkm {P : Program} {k i n : Nat} {U : Option (List Nat)} {ps : List Plan} (hh : headsOf ps = [(i, U)]) (hi : ops[i]? = some o) (ho : okc ops o F = some k) (h : KD k (AM1 P N E ops o i U n ps F H Q)) : AM P N E ops (n + 1) ps F H Q := (show AM1 P N E ops o i U n ps F H Q from h) hi hh
theorem zT {P : Program} {i n d : Nat} {x : AV} {ps : List Plan} (hr : Rd P N E o F H x) (h : AM P N E ops n (tailsOf (i, none) ps) ((d, x) :: F) H Q) (hg : gok ops o F = true := by exact rfl) (hd : o.dst = some d := by exact rfl) (hN : d < N := by decide) : AM1 P N E ops o i none n ps F H Q := fun ho hh S ρ a w hR => by
 obtain ⟨h1, h2⟩ := hr S ρ a w hR
 refine wpM_r hh rfl ho fun K hK => ?_
 rw [if_pos (zu2 (P := P) hg hR)]
 unfold Oper.still
 rw [h1]
 refine ⟨rfl, hK _ ?_⟩
 rw [hd]
 exact h S ρ _ w (hR.put hN h2)
theorem am_skip {P : Program} {i n d : Nat} {ps : List Plan} (hg : gd ops o F = some false) (hd : o.dst = some d) (hN : d < N) (h : AM P N E ops n (tailsOf (i, none) ps) ((d, un) :: F) H Q) : AM1 P N E ops o i none n ps F H Q := fun ho hh S ρ a w hR => by
 refine wpM_r hh rfl ho fun K hK => ?_
 have hw : ¬ Region.wanted o (yielded ops a.tmps) = true := by
  obtain ⟨j, b, oj, t, h1, h2, h3, ⟨b', h4, h5⟩ | ⟨h4, h5⟩⟩ := gd_of hg
  ·simp only [Region.wanted, h1, zI1 hR h2 h3 h4]
   cases b <;> cases b' <;> simp_all
  ·simp [Region.wanted, h1, zc3 hR h2 h3 h4]
 rw [if_neg hw, hd]
 exact hK _ (h S ρ _ w (hR.put hN (.c (.s _))))
theorem M5 {i n d : Nat} {v : AV} {ps : List Plan} (h : rdT N ops o F H = some (d, v)) (k : AM Tryz.prog N E ops n (tailsOf (i, none) ps) ((d, v) :: F) H Q) : AM1 Tryz.prog N E ops o i none n ps F H Q := by
 obtain ⟨h1, h2, ⟨rfl, h3⟩ | ⟨h3, h4⟩⟩ := rdT_of h
 ·exact am_skip h3 h1 h2 k
 ·exact zT (rdV_of h4) k h3 h1 h2
theorem am_efg {P : Program} {F2 : Fm} {H2 : List OB} {i n : Nat} {U : List Nat} {ps : List Plan} (hr : Ef P N E o F H fun F' H' => F' = F2 ∧ H' = H2) (hU : ∀ j ∈ U, Ag P N E ops F2 H2 j) (h : AM P N E ops n (tailsOf (i, some U) ps) F2 H2 Q) (hg : gok ops o F = true := by exact rfl) : AM1 P N E ops o i (some U) n ps F H Q := fun ho hh S ρ a w hR => by
 refine wpM_e hh rfl ho fun K' hK => ?_
 rw [if_pos (zu2 (P := P) hg hR)]
 refine zg1 (fun a' w' hh => ?_) (hr S ρ a w hR)
 obtain ⟨S', ρ', F', H', ⟨h1, h2⟩, hR'⟩ := hh
 subst h1; subst h2
 exact hK _ _ (fun j hj => hU j hj S' ρ' a' w' hR') (h S' ρ' a' w' hR')
theorem WX3 {G A : Prop} (h : G) (hs : Hid G → A := by (intro h; refine dkm rfl rfl rfl ?_; (first | ((with_reducible refine kd 20 ?_); refine M5 rfl ?_) | ((with_reducible refine kd 4 ?_); first | refine M5 rfl ?_ | refine zT YL ?_ | refine zT YK ?_ | refine zT YP ?_) | ((with_reducible refine kd 1 ?_); first | refine zT Zeql ?_ | refine zT Zadd ?_ | refine zT Zlss ?_ | refine zT Zneq ?_ | refine zT Zsub ?_ | refine zT Zmul ?_ | refine zT Zgtr ?_ | refine zT Zleq ?_ | refine zT Zgeq ?_ | refine zT Zquo ?_ | refine zT Zqut ?_ | refine zT Zquw ?_ | refine zT Zrem ?_ | refine zT Zrew ?_ | refine zT Ynil ?_ | refine zT Yeqb ?_ | refine zT Yneb ?_ | refine zT Yeqs ?_ | refine zT Ynes ?_ | refine zT Yads ?_ | refine zT Ypn ?_ | refine zT Ype ?_) | ((with_reducible refine kd 2 ?_); first | refine am_efg Ysto (by (repeat first | exact zm | (refine ze (by first | exact agT rfl rfl rfl rfl | exact agX (hr := YL) | exact agX (hr := YK) | exact agX (hr := YIj) | exact agX (hr := YJ) | exact agX (hr := YJo) | exact agX (hr := YI) | exact agX (hr := Ybld) | exact agAdd | exact agSub | exact agMul | exact agX (hr := Ysli) | exact agX (hr := Yslr) | exact agX (hr := Zquo) | exact agX (hr := Zqut) | exact agX (hr := Zrem) | exact agX (hr := Yidx) | exact agX (hr := Ylns) | exact agX (hr := Yeqs) | exact agX (hr := Ynes) | exact agX (hr := Zlss) | exact agX (hr := Zeql) | exact agX (hr := Zneq) | exact agX (hr := zl1 (ty := 0) rfl rfl rfl) | exact agX (hr := zm1 rfl rfl rfl) | exact agX (hr := YP) | exact agLk | exact agSe | exact agSn) ?_))) ?_ | refine am_efg Ystr (by (repeat first | exact zm | (refine ze (by first | exact agT rfl rfl rfl rfl | exact agX (hr := YL) | exact agX (hr := YK) | exact agX (hr := YIj) | exact agX (hr := YJ) | exact agX (hr := YJo) | exact agX (hr := YI) | exact agX (hr := Ybld) | exact agAdd | exact agSub | exact agMul | exact agX (hr := Ysli) | exact agX (hr := Yslr) | exact agX (hr := Zquo) | exact agX (hr := Zqut) | exact agX (hr := Zrem) | exact agX (hr := Yidx) | exact agX (hr := Ylns) | exact agX (hr := Yeqs) | exact agX (hr := Ynes) | exact agX (hr := Zlss) | exact agX (hr := Zeql) | exact agX (hr := Zneq) | exact agX (hr := zl1 (ty := 0) rfl rfl rfl) | exact agX (hr := zm1 rfl rfl rfl) | exact agX (hr := YP) | exact agLk | exact agSe | exact agSn) ?_))) ?_ | refine am_efg Ystp (by (repeat first | exact zm | (refine ze (by first | exact agT rfl rfl rfl rfl | exact agX (hr := YL) | exact agX (hr := YK) | exact agX (hr := YIj) | exact agX (hr := YJ) | exact agX (hr := YJo) | exact agX (hr := YI) | exact agX (hr := Ybld) | exact agAdd | exact agSub | exact agMul | exact agX (hr := Ysli) | exact agX (hr := Yslr) | exact agX (hr := Zquo) | exact agX (hr := Zqut) | exact agX (hr := Zrem) | exact agX (hr := Yidx) | exact agX (hr := Ylns) | exact agX (hr := Yeqs) | exact agX (hr := Ynes) | exact agX (hr := Zlss) | exact agX (hr := Zeql) | exact agX (hr := Zneq) | exact agX (hr := zl1 (ty := 0) rfl rfl rfl) | exact agX (hr := zm1 rfl rfl rfl) | exact agX (hr := YP) | exact agLk | exact agSe | exact agSn) ?_))) ?_) | ((with_reducible refine kd 3 ?_); first | refine zT YI ?_ | refine zT YJ ?_ | refine zT YJo ?_) | ((with_reducible refine kd 14 ?_); first | refine M5 rfl ?_ | refine zT Ylns ?_) | ((with_reducible refine kd 15 ?_); refine zT Yidx ?_) | ((with_reducible refine kd 5 ?_); first | refine zT Ysli ?_ | refine zT Yslr ?_) | ((with_reducible refine kd 6 ?_); refine am_efg Ybsl (by (repeat first | exact zm | (refine ze (by first | exact agT rfl rfl rfl rfl | exact agX (hr := YL) | exact agX (hr := YK) | exact agX (hr := YIj) | exact agX (hr := YJ) | exact agX (hr := YJo) | exact agX (hr := YI) | exact agX (hr := Ybld) | exact agAdd | exact agSub | exact agMul | exact agX (hr := Ysli) | exact agX (hr := Yslr) | exact agX (hr := Zquo) | exact agX (hr := Zqut) | exact agX (hr := Zrem) | exact agX (hr := Yidx) | exact agX (hr := Ylns) | exact agX (hr := Yeqs) | exact agX (hr := Ynes) | exact agX (hr := Zlss) | exact agX (hr := Zeql) | exact agX (hr := Zneq) | exact agX (hr := zl1 (ty := 0) rfl rfl rfl) | exact agX (hr := zm1 rfl rfl rfl) | exact agX (hr := YP) | exact agLk | exact agSe | exact agSn) ?_))) ?_) | ((with_reducible refine kd 7 ?_); refine am_efg Yall (by (repeat first | exact zm | (refine ze (by first | exact agT rfl rfl rfl rfl | exact agX (hr := YL) | exact agX (hr := YK) | exact agX (hr := YIj) | exact agX (hr := YJ) | exact agX (hr := YJo) | exact agX (hr := YI) | exact agX (hr := Ybld) | exact agAdd | exact agSub | exact agMul | exact agX (hr := Ysli) | exact agX (hr := Yslr) | exact agX (hr := Zquo) | exact agX (hr := Zqut) | exact agX (hr := Zrem) | exact agX (hr := Yidx) | exact agX (hr := Ylns) | exact agX (hr := Yeqs) | exact agX (hr := Ynes) | exact agX (hr := Zlss) | exact agX (hr := Zeql) | exact agX (hr := Zneq) | exact agX (hr := zl1 (ty := 0) rfl rfl rfl) | exact agX (hr := zm1 rfl rfl rfl) | exact agX (hr := YP) | exact agLk | exact agSe | exact agSn) ?_))) ?_) | ((with_reducible refine kd 8 ?_); refine am_efg Zbox (by (repeat first | exact zm | (refine ze (by first | exact agT rfl rfl rfl rfl | exact agX (hr := YL) | exact agX (hr := YK) | exact agX (hr := YIj) | exact agX (hr := YJ) | exact agX (hr := YJo) | exact agX (hr := YI) | exact agX (hr := Ybld) | exact agAdd | exact agSub | exact agMul | exact agX (hr := Ysli) | exact agX (hr := Yslr) | exact agX (hr := Zquo) | exact agX (hr := Zqut) | exact agX (hr := Zrem) | exact agX (hr := Yidx) | exact agX (hr := Ylns) | exact agX (hr := Yeqs) | exact agX (hr := Ynes) | exact agX (hr := Zlss) | exact agX (hr := Zeql) | exact agX (hr := Zneq) | exact agX (hr := zl1 (ty := 0) rfl rfl rfl) | exact agX (hr := zm1 rfl rfl rfl) | exact agX (hr := YP) | exact agLk | exact agSe | exact agSn) ?_))) ?_) | ((with_reducible refine kd 9 ?_); refine zT Ybld ?_) | ((with_reducible refine kd 10 ?_); refine zT Yneg ?_) | ((with_reducible refine kd 11 ?_); refine zT Ymkf ?_) | ((with_reducible refine kd 12 ?_); refine am_efg Ymak (by (repeat first | exact zm | (refine ze (by first | exact agT rfl rfl rfl rfl | exact agX (hr := YL) | exact agX (hr := YK) | exact agX (hr := YIj) | exact agX (hr := YJ) | exact agX (hr := YJo) | exact agX (hr := YI) | exact agX (hr := Ybld) | exact agAdd | exact agSub | exact agMul | exact agX (hr := Ysli) | exact agX (hr := Yslr) | exact agX (hr := Zquo) | exact agX (hr := Zqut) | exact agX (hr := Zrem) | exact agX (hr := Yidx) | exact agX (hr := Ylns) | exact agX (hr := Yeqs) | exact agX (hr := Ynes) | exact agX (hr := Zlss) | exact agX (hr := Zeql) | exact agX (hr := Zneq) | exact agX (hr := zl1 (ty := 0) rfl rfl rfl) | exact agX (hr := zm1 rfl rfl rfl) | exact agX (hr := YP) | exact agLk | exact agSe | exact agSn) ?_))) ?_) | ((with_reducible refine kd 13 ?_); first | refine zT (zl1 (ty := 0) rfl rfl rfl) ?_ | refine zT (zm1 rfl rfl rfl) ?_ | refine zT (rd_min3 rfl rfl rfl rfl) ?_ | refine zT (rd_max3 rfl rfl rfl rfl) ?_ | refine zT (rd_min4 rfl rfl rfl rfl rfl) ?_)); exact h.out)) : A := hs ⟨h⟩
theorem WM {G A : Prop} (h : G) (hs : Hid G → A := by (intro h; (repeat refine WX3 ?_); exact h.out)) : A := hs ⟨h⟩
theorem WN {G A : Prop} (h : G) (hs : Hid G → A := by (intro h; (repeat refine WX3 ?_); refine am_nil ?_; (repeat with_reducible first | apply S1 | apply S2 | apply S3 | apply S4 | apply S5 | apply S6 | apply S7 | apply S8 | refine S0 rfl ?_ | apply SA | apply SB | apply SC); exact h.out)) : A := hs ⟨h⟩
theorem AGX {U : List Nat} (h : ∀ j ∈ U, Ag Tryz.prog N E ops F H j := by (repeat first | exact zm | (refine ze (by first | exact agT rfl rfl rfl rfl | exact agX (hr := YL) | exact agX (hr := YK) | exact agX (hr := YIj) | exact agX (hr := YJ) | exact agX (hr := YJo) | exact agX (hr := YI) | exact agX (hr := Ybld) | exact agAdd | exact agSub | exact agMul | exact agX (hr := Ysli) | exact agX (hr := Yslr) | exact agX (hr := Zquo) | exact agX (hr := Zqut) | exact agX (hr := Zrem) | exact agX (hr := Yidx) | exact agX (hr := Ylns) | exact agX (hr := Yeqs) | exact agX (hr := Ynes) | exact agX (hr := Zlss) | exact agX (hr := Zeql) | exact agX (hr := Zneq) | exact agX (hr := zl1 (ty := 0) rfl rfl rfl) | exact agX (hr := zm1 rfl rfl rfl) | exact agX (hr := YP) | exact agLk | exact agSe | exact agSn) ?_))) : ∀ j ∈ U, Ag Tryz.prog N E ops F H j := h
end
end Go.Proofs.YtlhbfcfjepbhpaaGreatDoor
namespace Go.Proofs.YtlhbfcfjepbhpaaGreatDoor
open Go Go.RowKit
section
variable {N : Nat} {E : Env} {F : Fm} {H : List OB} {K : Fm → List OB → Prop}
end
section
variable {P : Program} {N : Nat} {E : Env} {F : Fm} {H : List OB} {K : Fm → List OB → Prop} {Q : Exit → Fm → List OB → Prop} {ops : Array Oper}
end
end Go.Proofs.YtlhbfcfjepbhpaaGreatDoor
namespace Go.Proofs.YtlhbfcfjepbhpaaGreatDoor
open Go Go.RowKit
section
variable {P : Program} {N : Nat} {E : Env} {F : Fm} {H : List OB} {o : Oper} {S : Nat → Prop} {ρ : List (Option Nat)} {a : Act} {w : World}
def arrSz (P : Program) (t : TypeId) : Option (Nat × TypeId × Nat) :=
 match P.underlying t with
 | some (.array n e) => (P.info? e).map fun i => (n, e, i.size)
 | _ => none
theorem arrSz_spec {t e : TypeId} {n sz : Nat} (h : arrSz P t = some (n, e, sz)) : (underlying t).run P w = .ok (.array n e) w ∧ (sizeOf e).run P w = .ok sz w := by
 unfold arrSz at h
 cases hu : P.underlying t with
 | none => rw [hu] at h; cases h
 | some d =>
  rw [hu] at h
  cases d <;> simp only [reduceCtorEq] at h
  rename_i n' e'
  cases hi : P.info? e' with
  | none => rw [hi] at h; cases h
  | some i =>
   rw [hi] at h
   simp only [Option.map_some, Option.some.injEq, Prod.mk.injEq] at h
   obtain ⟨rfl, rfl, rfl⟩ := h
   exact ⟨by unfold underlying; simp [hu], by simp [sizeOf, typeInfo, hi]⟩
theorem rd_ixa {t e : TypeId} {x ix : Operand} {b k j n i sz : Nat} {kd : IntKind} {z : Int} (ho : o.op = .indexAddr t x ix) (ht : arrSz P t = some (n, e, sz)) (hx : ev F x = some (.p b k j)) (hix : ev F ix = some (.c (.s (.int kd z)))) (hz : z = i) (hi : i < n) :
    Rd P N E o F H (.p b k (j + i * sz)) := fun S ρ a w hR => by
 obtain ⟨h1, h2⟩ := hR.ev hx
 have h3 := (hR.ev hix).1
 simp only [AV.den, CV.den] at h3
 obtain ⟨hu, hs⟩ := arrSz_spec (w := w) ht
 cases h2 with
 | p g0 g =>
  obtain ⟨B, hB⟩ := Option.isSome_iff_exists.1 g
  refine ⟨?_, .p g0 g⟩
  simp only [execOp, ho, h1, h3, AV.den, hB, Option.map_some, hz, Sem.run_bind, Instr.indexAt, asIntOf, hu, Result.andThen_ok, Sem.run_pure, Instr.sureAddr]
  rw [if_pos (by omega)]
  simp only [Sem.run_bind, hs, Result.andThen_ok, Sem.run_pure, Int.toNat_natCast]
  unfold Addr.add
  split
  ·rename_i h0; rw [h0]; rfl
  ·simp only [Nat.add_assoc]
mutual
/-- Pointers to the block's cells, without rows. -/
def AV.nk (b : Nat) : AV → Bool
 | .p b' k _ => b' != b || k == 0
 | .a l => AV.nkL b l
 | .t l => AV.nkL b l
 | .f _ l => AV.nkL b l
 | _ => true
def AV.nkL (b : Nat) : List AV → Bool
 | [] => true
 | x :: l => AV.nk b x && AV.nkL b l
end
def OB.nk (b : Nat) : OB → Bool
 | .box l => AV.nkL b l
 | .boxt _ l => AV.nkL b l
 | .eqv x _ => AV.nk b x
 | _ => true
end
end Go.Proofs.YtlhbfcfjepbhpaaGreatDoor
-- NEWM
namespace Go.Proofs.YtlhbfcfjepbhpaaGreatDoor
open Go Go.RowKit
set_option maxRecDepth 100000
def ascL (l : List UInt8) : List AV := (List.range 256).map fun i => .c (B (l.any fun c => c.toNat == i))
theorem zy1 (l : List UInt8) : (ascL l).length = 256 := by simp [ascL]
theorem ascL_nil : (List.replicate 256 (Value.bool false)).map (fun v => AV.c (cvOf v)) = ascL [] := by
 rw [List.map_replicate, ascL]
 refine List.ext_getElem (by rw [List.length_replicate, List.length_map, List.length_range]) fun i h1 h2 => ?_
 rw [List.getElem_replicate, List.getElem_map]
 rfl
theorem ascL_at (l : List UInt8) (b : UInt8) : (ascL l).drop (0 + b.toNat * 1) = .c (B (l.contains b)) :: (ascL l).drop (b.toNat + 1) := by
 have hb := b.toNat_lt
 rw [Nat.zero_add, Nat.mul_one, List.drop_eq_getElem_cons (by rw [zy1]; omega)]
 congr 1
 simp only [ascL, List.getElem_map, List.getElem_range]
 congr 2
 rw [Bool.eq_iff_iff, List.any_eq_true, List.contains_iff_mem]
 constructor
 ·rintro ⟨c, h1, h2⟩
  have h2 : c.toNat = b.toNat := by simpa using h2
  rwa [← UInt8.toNat_inj.1 h2]
 ·intro h; exact ⟨b, h, by simp⟩
theorem ascL_put (l : List UInt8) (b : UInt8) : putL (ascL l) (0 + b.toNat * 1) [.c (B true)] = ascL (l ++ [b]) := by
 have hb := b.toNat_lt
 rw [Nat.zero_add, Nat.mul_one]
 refine List.ext_getElem? fun i => ?_
 rw [zl2 (by rw [zy1]; simp; omega)]
 have hat : ∀ (m : List UInt8) (i : Nat), (ascL m)[i]? = if i < 256 then some (.c (B (m.any fun c => c.toNat == i))) else none := fun m i => by
  unfold ascL
  rw [List.getElem?_map]
  split
  ·rename_i h; rw [List.getElem?_range h]; rfl
  ·rename_i h; rw [List.getElem?_eq_none (by simpa using h)]; rfl
 rw [hat, hat]
 simp only [List.length_singleton]
 by_cases hi : b.toNat ≤ i ∧ i < b.toNat + 1
 ·obtain rfl : i = b.toNat := by omega
  rw [if_pos ⟨by omega, by omega⟩, if_pos (by omega), Nat.sub_self]
  simp
 ·rw [if_neg hi]
  have : (b.toNat == i) = false := by simp; omega
  simp [List.any_append, this]
theorem ze1 (l : List UInt8) : AV.cloL (ascL l) = true := by
 have : ∀ m : List CV, AV.cloL (m.map .c) = true := fun m => by
  induction m with
  | nil => rfl
  | cons x m ih => rw [List.map_cons, AV.cloL, AV.clo]; exact ih
 have e : ascL l = ((List.range 256).map fun i => B (l.any fun c => c.toNat == i)).map .c := by rw [ascL, List.map_map]; rfl
 rw [e]; exact this _
theorem ascL_one (l : List UInt8) : (ascL l).all AV.one = true := by
 rw [List.all_eq_true]
 intro x hx
 obtain ⟨i, _, rfl⟩ := List.mem_map.1 hx
 rfl
theorem ascL_all (m l : List UInt8) : putL (ascL m) 0 (ascL l) = ascL l := by
 unfold putL
 rw [List.take_zero, List.nil_append, Nat.zero_add, List.drop_eq_nil_of_le (by rw [zy1, zy1]; exact Nat.le_refl _), List.append_nil]
theorem aschas_v (l : List UInt8) (b : UInt8) : ACalls Tryz.prog 280 [.p 0 0 0, .c (.s (.int .u8 b.toNat))] [.box (ascL l)] fun u H => u = .c (B (l.contains b)) ∧ H = [.box (ascL l)] := by
 refine zg (N := 10) Tryz.func280 rfl rfl (by simp) fun E hE => ?_
 refine WA ?_
 refine ZR ?_
 iterate 3 refine WX1 ?_
 refine ZA (rd_ixa (i := b.toNat) (n := 256) (e := 4) (sz := 1) rfl (by kernel_rfl) rfl rfl rfl (by have := b.toNat_lt; omega)) ?_
 refine ZA (rd_loadn1 rfl (by kernel_rfl) rfl (Cells.box rfl) (ascL_at l b)) ?_
 refine WE ?_
 exact zh [some 0] [.box (ascL l)] rfl rfl rfl (by decide) (ZNK rfl) (fun _ => .box rfl (C0 (ze1 l)) .nil) ⟨rfl, rfl⟩
theorem makeascii_v (l : List UInt8) (h8 : ∀ b ∈ l, b < 128) (hl : l.length ≤ 1000000) : ACalls Tryz.prog 225 [.c (T l)] [] fun u H => u = .t [.a (ascL l), .c (B true)] ∧ H = [] := by
 refine zg (N := 21) Tryz.func225 rfl rfl (by simp) fun E hE => ?_
 refine ZR ?_
 refine zf rfl (ef_alloc (z := .agg (List.replicate 256 (Value.bool false)).toArray) (vs := List.replicate 256 (.bool false)) rfl rfl (by decide) (by kernel_rfl) rfl (by decide +kernel)) ?_
 rintro _ _ ⟨rfl, rfl⟩
 rw [ascL_nil]
 refine WE ?_
 refine WA ?_
 refine zK (fun m F H => ∃ k : Nat, m + k = l.length ∧ F = [(0, .c (T l)), (2, .p 0 0 0), (4, .c (I k))] ∧ H = [.box (ascL (l.take k))]) ?_ ?_
 ·refine zp [some 0] (fun _ => [(0, .c (T l)), (2, .p 0 0 0), (4, .c (I (0 : Nat)))]) (fun _ => [.box (ascL [])]) (by decide) (ZNL hE) ZCF (fun _ => .box rfl (C0 (ze1 _)) .nil) (fun _ => ?_)
  exact ⟨l.length, 0, by omega, rfl, rfl⟩
 rintro m F H ⟨k, hk, rfl, rfl⟩
 have hsz := zF1 l
 by_cases hlt : k < l.length
 ·obtain ⟨b, hb⟩ : ∃ b, l[k]? = some b := ⟨_, List.getElem?_eq_getElem hlt⟩
  have hb8 : ¬ (128 : Int) ≤ (b.toNat : Int) := by have := h8 b (List.mem_of_getElem? hb); have : b.toNat < 128 := this; omega
  have htk : l.take (k + 1) = l.take k ++ [b] := by rw [List.take_add_one, hb]; rfl
  refine WA ?_
  refine zb rfl ?_
  refine ZR ?_
  iterate 2 refine WX1 ?_
  refine ZA (zK1 (i := k) rfl Tryz.underlying9 rfl rfl rfl hb) ?_
  refine WE ?_
  refine WA ?_
  refine za rfl ?_
  refine ZZ ?_
  refine ZR ?_
  refine WX1 ?_
  refine ZA (rd_ixa (i := b.toNat) (n := 256) (e := 4) (sz := 1) rfl (by kernel_rfl) rfl rfl rfl (by have := b.toNat_lt; omega)) ?_
  refine zf rfl (zX2 (k := 1) rfl rfl rfl rfl rfl (by kernel_rfl) rfl (by rw [zy1]; have := b.toNat_lt; omega) rfl (ascL_put _ b) rfl) ?_
  rintro _ _ ⟨rfl, rfl⟩
  refine WE ?_
  refine WA ?_
  refine zp [some 0] (fun _ => [(0, .c (T l)), (2, .p 0 0 0), (4, .c (I (k + 1 : Nat)))]) (fun _ => [.box (ascL (l.take k ++ [b]))]) (by decide) (ZNL hE) ZCF (fun _ => .box rfl (C0 (ze1 _)) .nil) (fun _ => ?_)
  exact ⟨m - 1, by omega, k + 1, by omega, rfl, by rw [htk]⟩
 obtain rfl : k = l.length := by omega
 rw [List.take_length]
 refine WA ?_
 refine za rfl ?_
 refine ZZ ?_
 refine ZR ?_
 refine ZA (rd_loadn (k := 256) (cs' := ascL l) rfl (by kernel_rfl) rfl (Cells.box rfl) (by rw [List.drop_zero, List.take_of_length_le (by rw [zy1]; exact Nat.le_refl _)]) (by rw [List.drop_zero, zy1]; exact Nat.le_refl _)) ?_
 refine zf rfl (zX2 (k := 256) (l' := ascL l) rfl rfl rfl rfl rfl (by kernel_rfl) (zy1 l) (by rw [zy1]; exact Nat.le_refl _) (ascL_one l) (ascL_all _ l) rfl) ?_
 rintro _ _ ⟨rfl, rfl⟩
 refine WE ?_
 exact zu (us := [.a (ascL l), .c (B true)]) [] (fun _ => .t [.a (ascL l), .c (B true)]) (fun _ => []) (.cella (n := 256) rfl (by kernel_rfl) (Cells.box rfl) (by rw [List.drop_zero, zy1]; exact Nat.le_refl _) (by rw [List.drop_zero, List.take_of_length_le (by rw [zy1]; exact Nat.le_refl _)]) (.tmp rfl .nil)) (by decide) (fun i hi => absurd hi (Nat.not_lt_zero i)) (fun _ => .tL (.cons (.aL (C0 (ze1 l))) (.cons (.c rfl) .nil))) (fun _ => .nil) (fun _ => ⟨rfl, rfl⟩)
end Go.Proofs.YtlhbfcfjepbhpaaGreatDoor
