/- Guarded effects of drawn regions. -/
import Derived.Test.YtniolldgidgffaaGreatDoorQau
import Derived.Test.YtniolldgidgffaaGreatDoorQaq
import Derived.Test.YtniolldgidgffaaGreatDoorQan
import Derived.Test.YtniolldgidgffaaGreatDoorQar
import Derived.Test.YtniolldgidgffaaGreatDoorQao
set_option linter.unusedSimpArgs false
set_option linter.unusedVariables false
/- Lines of a grid: plain. -/
namespace Go.Proofs.YtniolldgidgffaaGreatDoor
def rE (f : Int → Bool) : Nat → Int → Int
 | 0, c => c
 | n + 1, c => if f (c + 1) = true then rE f n (c + 1) else c
theorem rE_spec {f : Int → Bool} : ∀ {n : Nat} {c : Int}, c ≤ rE f n c ∧ rE f n c ≤ c + n ∧ (∀ j, c < j → j ≤ rE f n c → f j = true) ∧ (rE f n c < c + n → f (rE f n c + 1) = false)
 | 0, c => ⟨Int.le_refl _, by simp [rE], fun j h1 h2 => by simp only [rE] at h2; omega, fun h => by simp only [rE] at h; omega⟩
 | n + 1, c => by
  obtain ⟨h1, h2, h3, h4⟩ := rE_spec (f := f) (n := n) (c := c + 1)
  rw [rE]
  split
  ·rename_i hf
   refine ⟨by omega, by omega, fun j h5 h6 => ?_, fun h => h4 (by omega)⟩
   by_cases e : j = c + 1
   ·rw [e]; exact hf
   ·exact h3 j (by omega) h6
  ·rename_i hf
   exact ⟨by omega, by omega, fun j h5 h6 => by omega, fun _ => by simpa using hf⟩
abbrev Lin := Int × Int × Int
def lnC (f : Int → Bool) (r c0 : Int) (W n : Nat) : List Lin := ((List.range n).filter fun k => f (c0 + (k : Nat)) && !f (c0 + (k : Nat) - 1)).map fun k => (r, c0 + (k : Nat), rE f (W - 1 - k) (c0 + (k : Nat)))
theorem lnC_0 (f : Int → Bool) (r c0 : Int) (W : Nat) : lnC f r c0 W 0 = [] := by simp [lnC]
theorem lnC_no {f : Int → Bool} {r c0 : Int} {W n : Nat} (h : (f (c0 + (n : Nat)) && !f (c0 + (n : Nat) - 1)) = false) : lnC f r c0 W (n + 1) = lnC f r c0 W n := by
 unfold lnC
 rw [List.range_succ, List.filter_append, List.map_append]
 simp only [List.filter_cons, List.filter_nil, h]
 simp
theorem lnC_yes {f : Int → Bool} {r c0 : Int} {W n : Nat} (h : (f (c0 + (n : Nat)) && !f (c0 + (n : Nat) - 1)) = true) : lnC f r c0 W (n + 1) = lnC f r c0 W n ++ [(r, c0 + (n : Nat), rE f (W - 1 - n) (c0 + (n : Nat)))] := by
 unfold lnC
 rw [List.range_succ, List.filter_append, List.map_append]
 simp only [List.filter_cons, List.filter_nil, h]
 simp
theorem lnC_skip {f : Int → Bool} {r c0 : Int} {W k : Nat} : ∀ {e : Nat}, k ≤ e → (∀ j : Nat, k < j → j ≤ e → f (c0 + (j : Nat) - 1) = true) → lnC f r c0 W (e + 1) = lnC f r c0 W (k + 1)
 | 0, h, _ => by obtain rfl : k = 0 := by omega
                 rfl
 | e + 1, h, hj => by
  by_cases ek : k = e + 1
  ·rw [ek]
  ·rw [lnC_no (by rw [hj (e + 1) (by omega) (by omega)]; simp), lnC_skip (e := e) (by omega) (fun j h1 h2 => hj j h1 (by omega))]
theorem lnC_len (f : Int → Bool) (r c0 : Int) (W n : Nat) : (lnC f r c0 W n).length ≤ n := by
 unfold lnC
 rw [List.length_map]
 have := List.length_filter_le (fun k : Nat => f (c0 + (k : Nat)) && !f (c0 + (k : Nat) - 1)) (List.range n)
 simpa using this
def lnS (f : Int → Int → Bool) (y x : Int) (W : Nat) (ev ph : Int) (n : Nat) : List Lin := (List.range n).flatMap fun i => if ((y + (i : Nat)) - ph).tmod ev ≠ 0 then [] else lnC (f (y + (i : Nat))) (y + (i : Nat)) x W W
theorem lnS_succ (f : Int → Int → Bool) (y x : Int) (W : Nat) (ev ph : Int) (n : Nat) : lnS f y x W ev ph (n + 1) = lnS f y x W ev ph n ++ (if ((y + (n : Nat)) - ph).tmod ev ≠ 0 then [] else lnC (f (y + (n : Nat))) (y + (n : Nat)) x W W) := by
 unfold lnS
 rw [List.range_succ, List.flatMap_append]
 simp
theorem lnS_len (f : Int → Int → Bool) (y x : Int) (W : Nat) (ev ph : Int) : ∀ n, (lnS f y x W ev ph n).length ≤ n * W
 | 0 => by simp [lnS]
 | n + 1 => by
  rw [lnS_succ, List.length_append, Nat.succ_mul]
  have h1 := lnS_len f y x W ev ph n
  have h2 := lnC_len (f (y + (n : Nat))) (y + (n : Nat)) x W W
  split
  ·simp; omega
  ·omega
def atQ (g : Grd) (q r c : Int) : Bool := if q = 1 then atG g r c else atG g c r
def yQ (g : Grd) (q : Int) : Int := if q = 1 then g.x else g.y
def xQ (g : Grd) (q : Int) : Int := if q = 1 then g.y else g.x
def hQ (g : Grd) (q : Int) : Nat := if q = 1 then g.w else g.h
def wQ (g : Grd) (q : Int) : Nat := if q = 1 then g.h else g.w
def linG (g : Grd) (q ev ph : Int) : List Lin := lnS (atQ g q) (yQ g q) (xQ g q) (wQ g q) ev ph (hQ g q)
theorem atQ_out {g : Grd} {q r c : Int} (h : c < xQ g q ∨ xQ g q + (wQ g q : Nat) ≤ c) : atQ g q r c = false := by
 unfold atQ xQ wQ at *
 split
 ·rename_i e
  rw [if_pos e, if_pos e] at h
  unfold atG
  simp only [Bool.and_eq_false_iff, decide_eq_false_iff_not]
  left
  rcases h with h | h
  ·left; right; omega
  ·right; omega
 ·rename_i e
  rw [if_neg e, if_neg e] at h
  unfold atG
  simp only [Bool.and_eq_false_iff, decide_eq_false_iff_not]
  left; left; left
  rcases h with h | h
  ·left; omega
  ·right; omega
theorem atQ_in {g : Grd} {q r c : Int} (h : atQ g q r c = true) : xQ g q ≤ c ∧ c < xQ g q + (wQ g q : Nat) := by
 refine ⟨?_, ?_⟩ <;> apply Classical.byContradiction <;> intro e
 ·rw [atQ_out (.inl (by omega))] at h; cases h
 ·rw [atQ_out (.inr (by omega))] at h; cases h
def ctr (st q r c : Int) : Spot := if q = 1 then (r * st + st / 2, c * st + st / 2) else (c * st + st / 2, r * st + st / 2)
def ptsL (st q : Int) (l : Lin) : List Spot := if l.2.2 ≠ l.2.1 then [ctr st q l.1 l.2.1, ctr st q l.1 l.2.2] else [ctr st q l.1 l.2.1]
end Go.Proofs.YtniolldgidgffaaGreatDoor

/- A slice literal that is only read from the first; slices of what is only read; several orders, walked in one step. -/
namespace Go.Proofs.YtniolldgidgffaaGreatDoor
open Go Go.RowKit
set_option maxRecDepth 100000
section
variable {P : Program} {N : Nat} {E : Env} {F : Fm} {H : List OB} {o : Oper}
theorem ef_bslr {t e : TypeId} {sz n d : Nat} {ps : Array (Nat × Operand)} {rows : List (List CV)} {z : Value} (ho : o.op = .buildSlice t n ps) (hd : o.dst = some d) (hN : d < N) (ht : elemSz P t = some (e, sz)) (hp : Parts F 0 ps.toList rows) (hn : rows.length = n)
    (hz : (P.info? e).bind (·.zero) = some z) (hzs : z.cells.size = sz) (hr : rows.all (fun row => row.length == sz && row.all CV.one) = true) (hle : n * sz ≤ 16777216) (hnm : n ≤ 16777216) :
    Ef P N E o F H fun F' H' => ∃ v, F' = (d, .c (.r v rows)) :: F ∧ H' = H := fun S ρ a w hR => by
 obtain ⟨hu, i, hi, hs⟩ := elemSz_spec ht
 have hu' : (underlying t).run P w = .ok (.slice e) w := by unfold underlying; simp [hu]
 have hsz : (sizeOf e).run P w = .ok sz w := by simp [sizeOf, typeInfo, hi, hs]
 have hzr : (zeroValue e).run P w = .ok z w := by
  unfold zeroValue typeInfo
  rw [hi] at hz
  simp only [Option.bind_some] at hz
  simp [hi, hz]
 subst hn
 have hr : ∀ row ∈ rows, row.length = sz ∧ ∀ u ∈ row, u.one = true := by simpa using hr
 obtain ⟨⟨cs', h1, h2, _, h4⟩, h5⟩ := fill_parts (sz := sz) hR hp ((Array.range (rows.length * sz)).map ((if rows.length * sz = 0 then #[] else z.cells)[· % (if rows.length * sz = 0 then #[] else z.cells).size]!)) (by simp) hr
 have hpm : (ps.map fun x => (x.1, a.eval x.2)).toList = ps.toList.map fun x => (x.1, a.eval x.2) := by simp
 have hlim : ¬ (rows.length * sz > 2 ^ 24) := by omega
 have hlim0 : ¬ ((0 : Nat) > 2 ^ 24) := by decide
 have hex : (execOp a.eval o).run P w = .ok (.value (.slice (some ⟨w.heap.size, 0, none⟩) rows.length rows.length)) (w.alloc (.cells cs' e)) := by
  by_cases hz0 : rows.length * sz = 0
  ·simp only [hz0, if_true] at h1
   simp only [execOp, ho, Instr.buildSlice, Sem.run_bind, hu', Result.andThen_ok, hsz, hlim0, if_false, hz0, if_true, Sem.run_pure, hpm, h1, newRow, run_newObj, World.alloc_eq]
  ·simp only [hz0, if_false] at h1
   simp only [execOp, ho, Instr.buildSlice, Sem.run_bind, hu', Result.andThen_ok, hsz, hlim, if_false, hz0, hzr, Sem.run_pure, hpm, h1, newRow, run_newObj, World.alloc_eq]
 unfold effO
 rw [hex]
 let S' : Nat → Prop := fun b => S b ∨ b = w.heap.size
 have hmo : Mo w S (w.alloc (.cells cs' e)) S' := fun b hb => ⟨.inl hb, Below.heap_alloc w _ b (hR.hp.sS b hb)⟩
 have hold : ∀ b, b < w.heap.size → (w.alloc (.cells cs' e)).heap[b]? = w.heap[b]? := fun b hb => Below.heap_alloc w _ b hb
 have hR2 : R N E S' ρ F H a (w.alloc (.cells cs' e)) := hR.ex (Ex.refl _ _) hmo
  ⟨hR.hp.len, hR.hp.nd, fun i B hi hS => by
   rcases hS with hS | hS
   ·exact hR.hp.ap i B hi hS
   ·have := hR.hp.lt i B hi; omega, fun i B hi => by have := hR.hp.lt i B hi; simp; omega, fun b hb => by
   rcases hb with hb | hb
   ·have := hR.hp.sS b hb; simp; omega
   ·subst hb; simp, fun i ob hob => (hR.hp.blk i ob hob).ex (Ex.refl _ _) hmo (fun B hB => hold B (hR.hp.lt i B hB))⟩
  (hR.st.alloc _) hR.nw (fun b hb => by
   rcases hb with hb | hb
   ·exact hR.nS b hb
   ·subst hb; exact .inr hR.st.size)
 refine ⟨S', ρ, _, _, ⟨.slice (some ⟨w.heap.size, 0, none⟩) rows.length rows.length, rfl, rfl⟩, ?_⟩
 rw [hd]
 refine hR2.put hN (.c (.r rows w.heap.size 0 sz rows.length rows.length rfl (Nat.le_refl _) (.inr rfl) (fun row hrow => (hr row hrow).1) (fun k j row u hk hj => ?_) (fun row hrow u hu => (h5 row hrow u hu).1.mono hmo)))
 have h6 := h4 k j row u hk hj
 rw [Nat.zero_add] at h6 ⊢
 rw [World.cell?, heap_new]
 simpa using h6
end
section
variable {N : Nat} {E : Env} {F : Fm} {H : List OB} {o : Oper}
theorem Ybsr {t e : TypeId} {sz k d : Nat} {ps : Array (Nat × Operand)} {rows : List (List CV)} {z : Value} {q : Nat × Nat} (ho : o.op = .buildSlice t k ps := by exact rfl) (ht : bE.get t = some (e, sz) := by exact rfl) (hz : bI.get e = some (z, q) := by exact rfl) (hp : partsC F 0 ps.toList = some rows := by exact rfl) (hd : o.dst = some d := by exact rfl) (hN : d < N := by decide) (hn : rows.length = k := by exact rfl) (hzs : z.cells.size = sz := by exact rfl) (hr : rows.all (fun row => row.length == sz && row.all CV.one) = true := by exact rfl) (hle : k * sz ≤ 16777216 := by simp) (hnm : k ≤ 16777216 := by simp) : Ef Tryz.prog N E o F H fun F' H' => ∃ v, F' = (d, .c (.r v rows)) :: F ∧ H' = H := ef_bslr ho hd hN (KE ht) (partsC_of hp) hn (KZ hz) hzs hr hle hnm
theorem Yslr {t e : TypeId} {sz : Nat} {x : Operand} {lo hi : Option Operand} {l h : Nat} {v : Value} {rows : List (List CV)} (ho : o.op = .slice t x lo hi none := by exact rfl) (ht : bE.get t = some (e, sz) := by exact rfl) (hx : ev F x = some (.c (.r v rows)) := by exact rfl) (hlo : (lo = none ∧ l = 0) ∨ ∃ y kd z, lo = some y ∧ ev F y = some (.c (.s (.int kd z))) ∧ z = l := by first | exact .inl ⟨rfl, rfl⟩ | exact .inr ⟨_, _, _, rfl, rfl, by first | rfl | omega⟩)
    (hhi : (hi = none ∧ h = rows.length) ∨ ∃ y kd z, hi = some y ∧ ev F y = some (.c (.s (.int kd z))) ∧ z = h := by first | exact .inl ⟨rfl, rfl⟩ | exact .inr ⟨_, _, _, rfl, rfl, by first | rfl | omega⟩) (hrow : ∀ row ∈ rows, row.length = sz := by assumption) (hlh : l ≤ h := by omega) (hhc : h ≤ rows.length := by omega) : Rd Tryz.prog N E o F H (.c (.r (subV v l h sz) ((rows.take h).drop l))) := rd_slicer ho (KE ht) hx hrow hlo hhi hlh hhc
variable {Q : Exit → Fm → List OB → Prop} {ops : Array Oper}
def AM1 (P : Program) (N : Nat) (E : Env) (ops : Array Oper) (o : Oper) (i : Nat) (U : Option (List Nat)) (n : Nat) (ps : List Plan) (F : Fm) (H : List OB) (Q : Exit → Fm → List OB → Prop) : Prop := ops[i]? = some o → headsOf ps = [(i, U)] → AM P N E ops (n + 1) ps F H Q
theorem dkm {P : Program} {k i n : Nat} {U : Option (List Nat)} {ps : List Plan} (hh : headsOf ps = [(i, U)]) (hi : ops[i]? = some o) (ho : okc ops o F = some k) (h : KD k (AM1 P N E ops o i U n ps F H Q)) : AM P N E ops (n + 1) ps F H Q := (show AM1 P N E ops o i U n ps F H Q from h) hi hh
theorem am_rdg {P : Program} {i n d : Nat} {x : AV} {ps : List Plan} (hr : Rd P N E o F H x) (h : AM P N E ops n (tailsOf (i, none) ps) ((d, x) :: F) H Q) (hg : gok ops o F = true := by exact rfl) (hd : o.dst = some d := by exact rfl) (hN : d < N := by decide) : AM1 P N E ops o i none n ps F H Q := fun ho hh S ρ a w hR => by
 obtain ⟨h1, h2⟩ := hr S ρ a w hR
 refine wpM_r hh rfl ho fun K hK => ?_
 rw [if_pos (wanted_of (P := P) hg hR)]
 unfold Oper.still
 rw [h1]
 refine ⟨rfl, hK _ ?_⟩
 rw [hd]
 exact h S ρ _ w (hR.put hN h2)
theorem am_skip {P : Program} {i n d : Nat} {ps : List Plan} (hg : gd ops o F = some false) (hd : o.dst = some d) (hN : d < N) (h : AM P N E ops n (tailsOf (i, none) ps) ((d, un) :: F) H Q) : AM1 P N E ops o i none n ps F H Q := fun ho hh S ρ a w hR => by
 refine wpM_r hh rfl ho fun K hK => ?_
 have hw : ¬ Region.wanted o (yielded ops a.tmps) = true := by
  obtain ⟨j, b, oj, t, h1, h2, h3, ⟨b', h4, h5⟩ | ⟨h4, h5⟩⟩ := gd_of hg
  ·simp only [Region.wanted, h1, yielded_of hR h2 h3 h4]
   cases b <;> cases b' <;> simp_all
  ·simp [Region.wanted, h1, skipped_of hR h2 h3 h4]
 rw [if_neg hw, hd]
 exact hK _ (h S ρ _ w (hR.put hN (.c (.s _))))
theorem M5 {i n d : Nat} {v : AV} {ps : List Plan} (h : rdT N ops o F H = some (d, v)) (k : AM Tryz.prog N E ops n (tailsOf (i, none) ps) ((d, v) :: F) H Q) : AM1 Tryz.prog N E ops o i none n ps F H Q := by
 obtain ⟨h1, h2, ⟨rfl, h3⟩ | ⟨h3, h4⟩⟩ := rdT_of h
 ·exact am_skip h3 h1 h2 k
 ·exact am_rdg (rdV_of h4) k h3 h1 h2
theorem am_efg {P : Program} {F2 : Fm} {H2 : List OB} {i n : Nat} {U : List Nat} {ps : List Plan} (hr : Ef P N E o F H fun F' H' => F' = F2 ∧ H' = H2) (hU : ∀ j ∈ U, Ag P N E ops F2 H2 j) (h : AM P N E ops n (tailsOf (i, some U) ps) F2 H2 Q) (hg : gok ops o F = true := by exact rfl) : AM1 P N E ops o i (some U) n ps F H Q := fun ho hh S ρ a w hR => by
 refine wpM_e hh rfl ho fun K' hK => ?_
 rw [if_pos (wanted_of (P := P) hg hR)]
 refine effO_mono (fun a' w' hh => ?_) (hr S ρ a w hR)
 obtain ⟨S', ρ', F', H', ⟨h1, h2⟩, hR'⟩ := hh
 subst h1; subst h2
 exact hK _ _ (fun j hj => hU j hj S' ρ' a' w' hR') (h S' ρ' a' w' hR')
theorem WX3 {G A : Prop} (h : G) (hs : Hid G → A := by (intro h; refine dkm rfl rfl rfl ?_; (first | ((with_reducible refine kd 20 ?_); refine M5 rfl ?_) | ((with_reducible refine kd 4 ?_); first | refine M5 rfl ?_ | refine am_rdg YL ?_ | refine am_rdg YK ?_) | ((with_reducible refine kd 1 ?_); first | refine am_rdg Zeql ?_ | refine am_rdg Zadd ?_ | refine am_rdg Zlss ?_ | refine am_rdg Zneq ?_ | refine am_rdg Zsub ?_ | refine am_rdg Zmul ?_ | refine am_rdg Zgtr ?_ | refine am_rdg Zleq ?_ | refine am_rdg Zgeq ?_ | refine am_rdg Zquo ?_ | refine am_rdg Zqut ?_ | refine am_rdg Zquw ?_ | refine am_rdg Zrem ?_ | refine am_rdg Zrew ?_ | refine am_rdg Ynil ?_ | refine am_rdg Yeqb ?_ | refine am_rdg Yneb ?_ | refine am_rdg Yeqs ?_ | refine am_rdg Ynes ?_ | refine am_rdg Yads ?_) | ((with_reducible refine kd 2 ?_); first | refine am_efg Ysto (by (repeat first | exact ag_none | (refine ag_cons (by first | exact agT rfl rfl rfl rfl | exact agX (hr := YL) | exact agX (hr := YK) | exact agX (hr := YIj) | exact agX (hr := YJ) | exact agX (hr := YJo) | exact agX (hr := YI) | exact agX (hr := Ybld) | exact agAdd | exact agSub | exact agMul | exact agX (hr := Ysli) | exact agX (hr := Yslr) | exact agX (hr := Zquo) | exact agX (hr := Zqut) | exact agX (hr := Zrem) | exact agX (hr := Yidx) | exact agX (hr := Ylns) | exact agX (hr := Yeqs) | exact agX (hr := Ynes) | exact agX (hr := Zlss) | exact agX (hr := Zeql) | exact agX (hr := Zneq) | exact agX (hr := rd_min2 (ty := 0) rfl rfl rfl) | exact agX (hr := rd_max2 rfl rfl rfl)) ?_))) ?_ | refine am_efg Ystr (by (repeat first | exact ag_none | (refine ag_cons (by first | exact agT rfl rfl rfl rfl | exact agX (hr := YL) | exact agX (hr := YK) | exact agX (hr := YIj) | exact agX (hr := YJ) | exact agX (hr := YJo) | exact agX (hr := YI) | exact agX (hr := Ybld) | exact agAdd | exact agSub | exact agMul | exact agX (hr := Ysli) | exact agX (hr := Yslr) | exact agX (hr := Zquo) | exact agX (hr := Zqut) | exact agX (hr := Zrem) | exact agX (hr := Yidx) | exact agX (hr := Ylns) | exact agX (hr := Yeqs) | exact agX (hr := Ynes) | exact agX (hr := Zlss) | exact agX (hr := Zeql) | exact agX (hr := Zneq) | exact agX (hr := rd_min2 (ty := 0) rfl rfl rfl) | exact agX (hr := rd_max2 rfl rfl rfl)) ?_))) ?_) | ((with_reducible refine kd 3 ?_); first | refine am_rdg YI ?_ | refine am_rdg YJ ?_ | refine am_rdg YJo ?_) | ((with_reducible refine kd 14 ?_); first | refine M5 rfl ?_ | refine am_rdg Ylns ?_) | ((with_reducible refine kd 15 ?_); refine am_rdg Yidx ?_) | ((with_reducible refine kd 5 ?_); first | refine am_rdg Ysli ?_ | refine am_rdg Yslr ?_) | ((with_reducible refine kd 6 ?_); refine am_efg Ybsl (by (repeat first | exact ag_none | (refine ag_cons (by first | exact agT rfl rfl rfl rfl | exact agX (hr := YL) | exact agX (hr := YK) | exact agX (hr := YIj) | exact agX (hr := YJ) | exact agX (hr := YJo) | exact agX (hr := YI) | exact agX (hr := Ybld) | exact agAdd | exact agSub | exact agMul | exact agX (hr := Ysli) | exact agX (hr := Yslr) | exact agX (hr := Zquo) | exact agX (hr := Zqut) | exact agX (hr := Zrem) | exact agX (hr := Yidx) | exact agX (hr := Ylns) | exact agX (hr := Yeqs) | exact agX (hr := Ynes) | exact agX (hr := Zlss) | exact agX (hr := Zeql) | exact agX (hr := Zneq) | exact agX (hr := rd_min2 (ty := 0) rfl rfl rfl) | exact agX (hr := rd_max2 rfl rfl rfl)) ?_))) ?_) | ((with_reducible refine kd 7 ?_); refine am_efg Yall (by (repeat first | exact ag_none | (refine ag_cons (by first | exact agT rfl rfl rfl rfl | exact agX (hr := YL) | exact agX (hr := YK) | exact agX (hr := YIj) | exact agX (hr := YJ) | exact agX (hr := YJo) | exact agX (hr := YI) | exact agX (hr := Ybld) | exact agAdd | exact agSub | exact agMul | exact agX (hr := Ysli) | exact agX (hr := Yslr) | exact agX (hr := Zquo) | exact agX (hr := Zqut) | exact agX (hr := Zrem) | exact agX (hr := Yidx) | exact agX (hr := Ylns) | exact agX (hr := Yeqs) | exact agX (hr := Ynes) | exact agX (hr := Zlss) | exact agX (hr := Zeql) | exact agX (hr := Zneq) | exact agX (hr := rd_min2 (ty := 0) rfl rfl rfl) | exact agX (hr := rd_max2 rfl rfl rfl)) ?_))) ?_) | ((with_reducible refine kd 8 ?_); refine am_efg Zbox (by (repeat first | exact ag_none | (refine ag_cons (by first | exact agT rfl rfl rfl rfl | exact agX (hr := YL) | exact agX (hr := YK) | exact agX (hr := YIj) | exact agX (hr := YJ) | exact agX (hr := YJo) | exact agX (hr := YI) | exact agX (hr := Ybld) | exact agAdd | exact agSub | exact agMul | exact agX (hr := Ysli) | exact agX (hr := Yslr) | exact agX (hr := Zquo) | exact agX (hr := Zqut) | exact agX (hr := Zrem) | exact agX (hr := Yidx) | exact agX (hr := Ylns) | exact agX (hr := Yeqs) | exact agX (hr := Ynes) | exact agX (hr := Zlss) | exact agX (hr := Zeql) | exact agX (hr := Zneq) | exact agX (hr := rd_min2 (ty := 0) rfl rfl rfl) | exact agX (hr := rd_max2 rfl rfl rfl)) ?_))) ?_) | ((with_reducible refine kd 9 ?_); refine am_rdg Ybld ?_) | ((with_reducible refine kd 10 ?_); refine am_rdg Yneg ?_) | ((with_reducible refine kd 11 ?_); refine am_rdg Ymkf ?_) | ((with_reducible refine kd 12 ?_); refine am_efg Ymak (by (repeat first | exact ag_none | (refine ag_cons (by first | exact agT rfl rfl rfl rfl | exact agX (hr := YL) | exact agX (hr := YK) | exact agX (hr := YIj) | exact agX (hr := YJ) | exact agX (hr := YJo) | exact agX (hr := YI) | exact agX (hr := Ybld) | exact agAdd | exact agSub | exact agMul | exact agX (hr := Ysli) | exact agX (hr := Yslr) | exact agX (hr := Zquo) | exact agX (hr := Zqut) | exact agX (hr := Zrem) | exact agX (hr := Yidx) | exact agX (hr := Ylns) | exact agX (hr := Yeqs) | exact agX (hr := Ynes) | exact agX (hr := Zlss) | exact agX (hr := Zeql) | exact agX (hr := Zneq) | exact agX (hr := rd_min2 (ty := 0) rfl rfl rfl) | exact agX (hr := rd_max2 rfl rfl rfl)) ?_))) ?_) | ((with_reducible refine kd 13 ?_); first | refine am_rdg (rd_min2 (ty := 0) rfl rfl rfl) ?_ | refine am_rdg (rd_max2 rfl rfl rfl) ?_ | refine am_rdg (rd_min3 rfl rfl rfl rfl) ?_ | refine am_rdg (rd_max3 rfl rfl rfl rfl) ?_ | refine am_rdg (rd_min4 rfl rfl rfl rfl rfl) ?_)); exact h.out)) : A := hs ⟨h⟩
theorem WM {G A : Prop} (h : G) (hs : Hid G → A := by (intro h; (repeat refine WX3 ?_); exact h.out)) : A := hs ⟨h⟩
theorem WN {G A : Prop} (h : G) (hs : Hid G → A := by (intro h; (repeat refine WX3 ?_); refine am_nil ?_; (repeat with_reducible first | apply S1 | apply S2 | apply S3 | apply S4 | apply S5 | apply S6 | apply S7 | apply S8 | refine S0 rfl ?_ | apply SA | apply SB | apply SC); exact h.out)) : A := hs ⟨h⟩
theorem AGX {U : List Nat} (h : ∀ j ∈ U, Ag Tryz.prog N E ops F H j := by (repeat first | exact ag_none | (refine ag_cons (by first | exact agT rfl rfl rfl rfl | exact agX (hr := YL) | exact agX (hr := YK) | exact agX (hr := YIj) | exact agX (hr := YJ) | exact agX (hr := YJo) | exact agX (hr := YI) | exact agX (hr := Ybld) | exact agAdd | exact agSub | exact agMul | exact agX (hr := Ysli) | exact agX (hr := Yslr) | exact agX (hr := Zquo) | exact agX (hr := Zqut) | exact agX (hr := Zrem) | exact agX (hr := Yidx) | exact agX (hr := Ylns) | exact agX (hr := Yeqs) | exact agX (hr := Ynes) | exact agX (hr := Zlss) | exact agX (hr := Zeql) | exact agX (hr := Zneq) | exact agX (hr := rd_min2 (ty := 0) rfl rfl rfl) | exact agX (hr := rd_max2 rfl rfl rfl)) ?_))) : ∀ j ∈ U, Ag Tryz.prog N E ops F H j := h
end
end Go.Proofs.YtniolldgidgffaaGreatDoor

/- The logic over values: an array that was lent may give way to one that is new. -/
namespace Go.Proofs.YtniolldgidgffaaGreatDoor
open Go Go.RowKit
section
variable {N : Nat} {E : Env} {F : Fm} {H : List OB} {K : Fm → List OB → Prop}
end
section
variable {P : Program} {N : Nat} {E : Env} {F : Fm} {H : List OB} {K : Fm → List OB → Prop} {Q : Exit → Fm → List OB → Prop} {ops : Array Oper}
end
end Go.Proofs.YtniolldgidgffaaGreatDoor

/- Guarded effects of drawn regions. -/
namespace Go.Proofs.YtniolldgidgffaaGreatDoor
open Go Go.RowKit
section
variable {P : Program} {N : Nat} {E : Env} {F : Fm} {H : List OB} {o : Oper} {Q : Exit → Fm → List OB → Prop} {ops : Array Oper} {i : Nat} {L : List (Nat × Option (List Nat))}
theorem wanted_no {S : Nat → Prop} {ρ : List (Option Nat)} {a : Act} {w : World} (h : gd ops o F = some false) (hR : R N E S ρ F H a w) : Region.wanted o (yielded ops a.tmps) = false := by
 obtain ⟨j, b, oj, t, h1, h2, h3, ⟨b', h4, h5⟩ | ⟨h4, _⟩⟩ := gd_of h
 ·simp only [Region.wanted, h1, yielded_of hR h2 h3 h4]
  cases b <;> cases b' <;> simp_all
 ·simp [Region.wanted, h1, skipped_of hR h2 h3 h4]
theorem at_efK {U : List Nat} {K : Fm → List OB → Prop} (ho : ops[i]? = some o) (hr : Ef P N E o F H K) (h : ∀ F' H', K F' H' → (∀ j ∈ U, Ag P N E ops F' H' j) ∧ AT P N E ops L F' H' Q) (hg : gok ops o F = true := by exact rfl) : AT P N E ops ((i, some U) :: L) F H Q := fun S ρ a w hR => by
 refine wpT_e ho fun K' hK => ?_
 rw [if_pos (wanted_of (P := P) hg hR)]
 refine effO_mono (fun a' w' hh => ?_) (hr S ρ a w hR)
 obtain ⟨S', ρ', F', H', hk, hR'⟩ := hh
 obtain ⟨h1, h2⟩ := h F' H' hk
 exact hK _ _ (fun j hj => h1 j hj S' ρ' a' w' hR') (h2 S' ρ' a' w' hR')
theorem at_efN {U : List Nat} {d : Nat} (ho : ops[i]? = some o) (hg : gd ops o F = some false) (hd : o.dst = some d) (hN : d < N) (h : (∀ j ∈ U, Ag P N E ops ((d, un) :: F) H j) ∧ AT P N E ops L ((d, un) :: F) H Q) : AT P N E ops ((i, some U) :: L) F H Q := fun S ρ a w hR => by
 refine wpT_e ho fun K' hK => ?_
 rw [if_neg (by rw [wanted_no hg hR]; simp)]
 have hR' : R N E S ρ ((d, un) :: F) H (a.put o.dst undef) w := by rw [hd]; exact hR.put hN (.c (.s _))
 exact hK _ _ (fun j hj => h.1 j hj S ρ _ w hR') (h.2 S ρ _ w hR')
end
end Go.Proofs.YtniolldgidgffaaGreatDoor
