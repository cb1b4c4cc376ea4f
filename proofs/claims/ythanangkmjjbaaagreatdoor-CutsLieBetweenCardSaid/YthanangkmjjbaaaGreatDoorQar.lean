/- The logic over values: an array that was lent may give way to one that is new. -/
import Derived.Test.YthanangkmjjbaaaGreatDoorQap
import Derived.Test.YthanangkmjjbaaaGreatDoorQam
set_option linter.unusedSimpArgs false
set_option linter.unusedVariables false
/- A slice literal that is only read from the first; slices of what is only read; several orders, walked in one step. -/
namespace Go.Proofs.YthanangkmjjbaaaGreatDoor
open Go Go.RowKit
set_option maxRecDepth 100000
section
variable {P : Program} {N : Nat} {E : Env} {F : Fm} {H : List OB} {o : Oper}
theorem ef_bslr {t e : TypeId} {sz n d : Nat} {ps : Array (Nat × Operand)} {rows : List (List CV)} {z : Value} (ho : o.op = .buildSlice t n ps) (hd : o.dst = some d) (hN : d < N) (ht : elemSz P t = some (e, sz)) (hp : Parts F 0 ps.toList rows) (hn : rows.length = n)
    (hz : (P.info? e).bind (·.zero) = some z) (hzs : z.cells.size = sz) (hr : rows.all (fun row => row.length == sz && row.all CV.one) = true) (hle : n * sz ≤ 16777216) (hnm : n ≤ 16777216) :
    Ef P N E o F H fun F' H' => ∃ v, F' = (d, .c (.r v rows)) :: F ∧ H' = H := fun S ρ a w hR => by
  obtain ⟨hu, i, hi, hs⟩ := elemSz_spec ht
  have hu' : (underlying t).run P w = .ok (.slice e) w := by unfold underlying; simp [hu]
  have hsz : (sizeOf e).run P w = .ok sz w := by simp [sizeOf, typeInfo, hi, hs]
  have hzr : (zeroValue e).run P w = .ok z w := by
    unfold zeroValue typeInfo
    rw [hi] at hz
    simp only [Option.bind_some] at hz
    simp [hi, hz]
  subst hn
  have hr : ∀ row ∈ rows, row.length = sz ∧ ∀ u ∈ row, u.one = true := by simpa using hr
  obtain ⟨⟨cs', h1, h2, _, h4⟩, h5⟩ := fill_parts (sz := sz) hR hp ((Array.range (rows.length * sz)).map ((if rows.length * sz = 0 then #[] else z.cells)[· % (if rows.length * sz = 0 then #[] else z.cells).size]!)) (by simp) hr
  have hpm : (ps.map fun x => (x.1, a.eval x.2)).toList = ps.toList.map fun x => (x.1, a.eval x.2) := by simp
  have hlim : ¬ (rows.length * sz > 2 ^ 24) := by omega
  have hlim0 : ¬ ((0 : Nat) > 2 ^ 24) := by decide
  have hex : (execOp a.eval o).run P w = .ok (.value (.slice (some ⟨w.heap.size, 0, none⟩) rows.length rows.length)) (w.alloc (.cells cs' e)) := by
    by_cases hz0 : rows.length * sz = 0
    · simp only [hz0, if_true] at h1
      simp only [execOp, ho, Instr.buildSlice, Sem.run_bind, hu', Result.andThen_ok, hsz, hlim0, if_false, hz0, if_true, Sem.run_pure, hpm, h1, newRow, run_newObj, World.alloc_eq]
    · simp only [hz0, if_false] at h1
      simp only [execOp, ho, Instr.buildSlice, Sem.run_bind, hu', Result.andThen_ok, hsz, hlim, if_false, hz0, hzr, Sem.run_pure, hpm, h1, newRow, run_newObj, World.alloc_eq]
  unfold effO
  rw [hex]
  let S' : Nat → Prop := fun b => S b ∨ b = w.heap.size
  have hmo : Mo w S (w.alloc (.cells cs' e)) S' := fun b hb => ⟨.inl hb, Below.heap_alloc w _ b (hR.hp.sS b hb)⟩
  have hold : ∀ b, b < w.heap.size → (w.alloc (.cells cs' e)).heap[b]? = w.heap[b]? := fun b hb => Below.heap_alloc w _ b hb
  have hR2 : R N E S' ρ F H a (w.alloc (.cells cs' e)) := hR.ex (Ex.refl _ _) hmo
    ⟨hR.hp.len, hR.hp.nd, fun i B hi hS => by
      rcases hS with hS | hS
      · exact hR.hp.ap i B hi hS
      · have := hR.hp.lt i B hi; omega, fun i B hi => by have := hR.hp.lt i B hi; simp; omega, fun b hb => by
      rcases hb with hb | hb
      · have := hR.hp.sS b hb; simp; omega
      · subst hb; simp, fun i ob hob => (hR.hp.blk i ob hob).ex (Ex.refl _ _) hmo (fun B hB => hold B (hR.hp.lt i B hB))⟩
    (hR.st.alloc _) hR.nw (fun b hb => by
      rcases hb with hb | hb
      · exact hR.nS b hb
      · subst hb; exact .inr hR.st.size)
  refine ⟨S', ρ, _, _, ⟨.slice (some ⟨w.heap.size, 0, none⟩) rows.length rows.length, rfl, rfl⟩, ?_⟩
  rw [hd]
  refine hR2.put hN (.c (.r rows w.heap.size 0 sz rows.length rows.length rfl (Nat.le_refl _) (.inr rfl) (fun row hrow => (hr row hrow).1) (fun k j row u hk hj => ?_) (fun row hrow u hu => (h5 row hrow u hu).1.mono hmo)))
  have h6 := h4 k j row u hk hj
  rw [Nat.zero_add] at h6 ⊢
  rw [World.cell?, heap_new]
  simpa using h6
end
section
variable {N : Nat} {E : Env} {F : Fm} {H : List OB} {o : Oper}
theorem Ybsr {t e : TypeId} {sz k d : Nat} {ps : Array (Nat × Operand)} {rows : List (List CV)} {z : Value} {q : Nat × Nat} (ho : o.op = .buildSlice t k ps := by exact rfl) (ht : bE.get t = some (e, sz) := by exact rfl) (hz : bI.get e = some (z, q) := by exact rfl) (hp : partsC F 0 ps.toList = some rows := by exact rfl) (hd : o.dst = some d := by exact rfl) (hN : d < N := by decide) (hn : rows.length = k := by exact rfl) (hzs : z.cells.size = sz := by exact rfl) (hr : rows.all (fun row => row.length == sz && row.all CV.one) = true := by exact rfl) (hle : k * sz ≤ 16777216 := by simp) (hnm : k ≤ 16777216 := by simp) : Ef Tryz.prog N E o F H fun F' H' => ∃ v, F' = (d, .c (.r v rows)) :: F ∧ H' = H := ef_bslr ho hd hN (KE ht) (partsC_of hp) hn (KZ hz) hzs hr hle hnm
theorem Yslr {t e : TypeId} {sz : Nat} {x : Operand} {lo hi : Option Operand} {l h : Nat} {v : Value} {rows : List (List CV)} (ho : o.op = .slice t x lo hi none := by exact rfl) (ht : bE.get t = some (e, sz) := by exact rfl) (hx : ev F x = some (.c (.r v rows)) := by exact rfl) (hlo : (lo = none ∧ l = 0) ∨ ∃ y kd z, lo = some y ∧ ev F y = some (.c (.s (.int kd z))) ∧ z = l := by first | exact .inl ⟨rfl, rfl⟩ | exact .inr ⟨_, _, _, rfl, rfl, by first | rfl | omega⟩)
    (hhi : (hi = none ∧ h = rows.length) ∨ ∃ y kd z, hi = some y ∧ ev F y = some (.c (.s (.int kd z))) ∧ z = h := by first | exact .inl ⟨rfl, rfl⟩ | exact .inr ⟨_, _, _, rfl, rfl, by first | rfl | omega⟩) (hrow : ∀ row ∈ rows, row.length = sz := by assumption) (hlh : l ≤ h := by omega) (hhc : h ≤ rows.length := by omega) : Rd Tryz.prog N E o F H (.c (.r (subV v l h sz) ((rows.take h).drop l))) := rd_slicer ho (KE ht) hx hrow hlo hhi hlh hhc
variable {Q : Exit → Fm → List OB → Prop} {ops : Array Oper}
/-- The next operation, where several orders go on alike. -/
def AM1 (P : Program) (N : Nat) (E : Env) (ops : Array Oper) (o : Oper) (i : Nat) (U : Option (List Nat)) (n : Nat) (ps : List Plan) (F : Fm) (H : List OB) (Q : Exit → Fm → List OB → Prop) : Prop := ops[i]? = some o → headsOf ps = [(i, U)] → AM P N E ops (n + 1) ps F H Q
theorem dkm {P : Program} {k i n : Nat} {U : Option (List Nat)} {ps : List Plan} (hh : headsOf ps = [(i, U)]) (hi : ops[i]? = some o) (ho : okc ops o F = some k) (h : KD k (AM1 P N E ops o i U n ps F H Q)) : AM P N E ops (n + 1) ps F H Q := (show AM1 P N E ops o i U n ps F H Q from h) hi hh
theorem am_rdg {P : Program} {i n d : Nat} {x : AV} {ps : List Plan} (hr : Rd P N E o F H x) (h : AM P N E ops n (tailsOf (i, none) ps) ((d, x) :: F) H Q) (hg : gok ops o F = true := by exact rfl) (hd : o.dst = some d := by exact rfl) (hN : d < N := by decide) : AM1 P N E ops o i none n ps F H Q := fun ho hh S ρ a w hR => by
  obtain ⟨h1, h2⟩ := hr S ρ a w hR
  refine wpM_r hh rfl ho fun K hK => ?_
  rw [if_pos (wanted_of (P := P) hg hR)]
  unfold Oper.still
  rw [h1]
  refine ⟨rfl, hK _ ?_⟩
  rw [hd]
  exact h S ρ _ w (hR.put hN h2)
theorem am_skip {P : Program} {i n d : Nat} {ps : List Plan} (hg : gd ops o F = some false) (hd : o.dst = some d) (hN : d < N) (h : AM P N E ops n (tailsOf (i, none) ps) ((d, un) :: F) H Q) : AM1 P N E ops o i none n ps F H Q := fun ho hh S ρ a w hR => by
  refine wpM_r hh rfl ho fun K hK => ?_
  have hw : ¬ Region.wanted o (yielded ops a.tmps) = true := by
    obtain ⟨j, b, oj, t, h1, h2, h3, ⟨b', h4, h5⟩ | ⟨h4, h5⟩⟩ := gd_of hg
    · simp only [Region.wanted, h1, yielded_of hR h2 h3 h4]
      cases b <;> cases b' <;> simp_all
    · simp [Region.wanted, h1, skipped_of hR h2 h3 h4]
  rw [if_neg hw, hd]
  exact hK _ (h S ρ _ w (hR.put hN (.c (.s _))))
theorem M5 {i n d : Nat} {v : AV} {ps : List Plan} (h : rdT N ops o F H = some (d, v)) (k : AM Tryz.prog N E ops n (tailsOf (i, none) ps) ((d, v) :: F) H Q) : AM1 Tryz.prog N E ops o i none n ps F H Q := by
  obtain ⟨h1, h2, ⟨rfl, h3⟩ | ⟨h3, h4⟩⟩ := rdT_of h
  · exact am_skip h3 h1 h2 k
  · exact am_rdg (rdV_of h4) k h3 h1 h2
theorem am_efg {P : Program} {F2 : Fm} {H2 : List OB} {i n : Nat} {U : List Nat} {ps : List Plan} (hr : Ef P N E o F H fun F' H' => F' = F2 ∧ H' = H2) (hU : ∀ j ∈ U, Ag P N E ops F2 H2 j) (h : AM P N E ops n (tailsOf (i, some U) ps) F2 H2 Q) (hg : gok ops o F = true := by exact rfl) : AM1 P N E ops o i (some U) n ps F H Q := fun ho hh S ρ a w hR => by
  refine wpM_e hh rfl ho fun K' hK => ?_
  rw [if_pos (wanted_of (P := P) hg hR)]
  refine effO_mono (fun a' w' hh => ?_) (hr S ρ a w hR)
  obtain ⟨S', ρ', F', H', ⟨h1, h2⟩, hR'⟩ := hh
  subst h1; subst h2
  exact hK _ _ (fun j hj => hU j hj S' ρ' a' w' hR') (h S' ρ' a' w' hR')
/-- One operation of several orders. -/
theorem WX3 {G A : Prop} (h : G) (hs : Hid G → A := by (intro h; refine dkm rfl rfl rfl ?_; (first | ((with_reducible refine kd 20 ?_); refine M5 rfl ?_) | ((with_reducible refine kd 4 ?_); first | refine M5 rfl ?_ | refine am_rdg YL ?_ | refine am_rdg YK ?_) | ((with_reducible refine kd 1 ?_); first | refine am_rdg Zeql ?_ | refine am_rdg Zadd ?_ | refine am_rdg Zlss ?_ | refine am_rdg Zneq ?_ | refine am_rdg Zsub ?_ | refine am_rdg Zmul ?_ | refine am_rdg Zgtr ?_ | refine am_rdg Zleq ?_ | refine am_rdg Zgeq ?_ | refine am_rdg Zquo ?_ | refine am_rdg Zquw ?_ | refine am_rdg Zrem ?_ | refine am_rdg Zrew ?_ | refine am_rdg Ynil ?_ | refine am_rdg Yeqb ?_ | refine am_rdg Yneb ?_) | ((with_reducible refine kd 2 ?_); first | refine am_efg Ysto (by (repeat first | exact ag_none | (refine ag_cons (by first | exact agT rfl rfl rfl rfl | exact agX (hr := YL) | exact agX (hr := YK) | exact agX (hr := YIj) | exact agX (hr := YJ) | exact agX (hr := YI) | exact agX (hr := Ybld) | exact agAdd | exact agSub | exact agMul | exact agX (hr := Ysli) | exact agX (hr := Yslr) | exact agX (hr := Zquo) | exact agX (hr := Zrem) | exact agX (hr := Zlss) | exact agX (hr := Zeql) | exact agX (hr := Zneq)) ?_))) ?_ | refine am_efg Ystr (by (repeat first | exact ag_none | (refine ag_cons (by first | exact agT rfl rfl rfl rfl | exact agX (hr := YL) | exact agX (hr := YK) | exact agX (hr := YIj) | exact agX (hr := YJ) | exact agX (hr := YI) | exact agX (hr := Ybld) | exact agAdd | exact agSub | exact agMul | exact agX (hr := Ysli) | exact agX (hr := Yslr) | exact agX (hr := Zquo) | exact agX (hr := Zrem) | exact agX (hr := Zlss) | exact agX (hr := Zeql) | exact agX (hr := Zneq)) ?_))) ?_) | ((with_reducible refine kd 3 ?_); first | refine am_rdg YI ?_ | refine am_rdg YJ ?_) | ((with_reducible refine kd 14 ?_); first | refine M5 rfl ?_ | refine am_rdg (rd_lens rfl Tryz.underlying9 rfl) ?_) | ((with_reducible refine kd 5 ?_); first | refine am_rdg Ysli ?_ | refine am_rdg Yslr ?_) | ((with_reducible refine kd 6 ?_); refine am_efg Ybsl (by (repeat first | exact ag_none | (refine ag_cons (by first | exact agT rfl rfl rfl rfl | exact agX (hr := YL) | exact agX (hr := YK) | exact agX (hr := YIj) | exact agX (hr := YJ) | exact agX (hr := YI) | exact agX (hr := Ybld) | exact agAdd | exact agSub | exact agMul | exact agX (hr := Ysli) | exact agX (hr := Yslr) | exact agX (hr := Zquo) | exact agX (hr := Zrem) | exact agX (hr := Zlss) | exact agX (hr := Zeql) | exact agX (hr := Zneq)) ?_))) ?_) | ((with_reducible refine kd 7 ?_); refine am_efg Yall (by (repeat first | exact ag_none | (refine ag_cons (by first | exact agT rfl rfl rfl rfl | exact agX (hr := YL) | exact agX (hr := YK) | exact agX (hr := YIj) | exact agX (hr := YJ) | exact agX (hr := YI) | exact agX (hr := Ybld) | exact agAdd | exact agSub | exact agMul | exact agX (hr := Ysli) | exact agX (hr := Yslr) | exact agX (hr := Zquo) | exact agX (hr := Zrem) | exact agX (hr := Zlss) | exact agX (hr := Zeql) | exact agX (hr := Zneq)) ?_))) ?_) | ((with_reducible refine kd 8 ?_); refine am_efg Zbox (by (repeat first | exact ag_none | (refine ag_cons (by first | exact agT rfl rfl rfl rfl | exact agX (hr := YL) | exact agX (hr := YK) | exact agX (hr := YIj) | exact agX (hr := YJ) | exact agX (hr := YI) | exact agX (hr := Ybld) | exact agAdd | exact agSub | exact agMul | exact agX (hr := Ysli) | exact agX (hr := Yslr) | exact agX (hr := Zquo) | exact agX (hr := Zrem) | exact agX (hr := Zlss) | exact agX (hr := Zeql) | exact agX (hr := Zneq)) ?_))) ?_) | ((with_reducible refine kd 9 ?_); refine am_rdg Ybld ?_) | ((with_reducible refine kd 10 ?_); refine am_rdg Yneg ?_) | ((with_reducible refine kd 11 ?_); refine am_rdg Ymkf ?_) | ((with_reducible refine kd 12 ?_); refine am_efg Ymak (by (repeat first | exact ag_none | (refine ag_cons (by first | exact agT rfl rfl rfl rfl | exact agX (hr := YL) | exact agX (hr := YK) | exact agX (hr := YIj) | exact agX (hr := YJ) | exact agX (hr := YI) | exact agX (hr := Ybld) | exact agAdd | exact agSub | exact agMul | exact agX (hr := Ysli) | exact agX (hr := Yslr) | exact agX (hr := Zquo) | exact agX (hr := Zrem) | exact agX (hr := Zlss) | exact agX (hr := Zeql) | exact agX (hr := Zneq)) ?_))) ?_) | ((with_reducible refine kd 13 ?_); first | refine am_rdg (rd_min2 (ty := 0) rfl rfl rfl) ?_ | refine am_rdg (rd_max2 rfl rfl rfl) ?_ | refine am_rdg (rd_min3 rfl rfl rfl rfl) ?_ | refine am_rdg (rd_max3 rfl rfl rfl rfl) ?_ | refine am_rdg (rd_min4 rfl rfl rfl rfl rfl) ?_)); exact h.out)) : A := hs ⟨h⟩
/-- Operations of several orders, as far as they go on alike. -/
theorem WM {G A : Prop} (h : G) (hs : Hid G → A := by (intro h; (repeat refine WX3 ?_); exact h.out)) : A := hs ⟨h⟩
/-- .. to the end. -/
theorem WN {G A : Prop} (h : G) (hs : Hid G → A := by (intro h; (repeat refine WX3 ?_); refine am_nil ?_; (repeat with_reducible first | apply S1 | apply S2 | apply S3 | apply S4 | apply S5 | apply S6 | apply S7 | apply S8 | refine S0 rfl ?_ | apply SA | apply SB | apply SC); exact h.out)) : A := hs ⟨h⟩
/-- Read again. -/
theorem AGX {U : List Nat} (h : ∀ j ∈ U, Ag Tryz.prog N E ops F H j := by (repeat first | exact ag_none | (refine ag_cons (by first | exact agT rfl rfl rfl rfl | exact agX (hr := YL) | exact agX (hr := YK) | exact agX (hr := YIj) | exact agX (hr := YJ) | exact agX (hr := YI) | exact agX (hr := Ybld) | exact agAdd | exact agSub | exact agMul | exact agX (hr := Ysli) | exact agX (hr := Yslr) | exact agX (hr := Zquo) | exact agX (hr := Zrem) | exact agX (hr := Zlss) | exact agX (hr := Zeql) | exact agX (hr := Zneq)) ?_))) : ∀ j ∈ U, Ag Tryz.prog N E ops F H j := h
end
end Go.Proofs.YthanangkmjjbaaaGreatDoor

/- The logic over values: an array that was lent may give way to one that is new. -/
namespace Go.Proofs.YthanangkmjjbaaaGreatDoor
open Go Go.RowKit
section
variable {N : Nat} {E : Env} {F : Fm} {H : List OB} {K : Fm → List OB → Prop}
/-- Restating, with lent arrays (not variables) put in another block that is new. -/
theorem wk_ofr (m : List (Option Nat)) (F' : (AV → Value) → Fm) (H' : (AV → Value) → List OB) (hm : (m.filterMap id).Nodup) (hp : E.pin = false)
    (hl : ∀ i, i < E.H0.length → ∃ j, m[i]? = some (some j) ∧ (j = i ∨ (E.H0.length ≤ j ∧ ∀ o, H[i]? = some o → o.shp = 0))) (hk : ∀ i b, m[i]? = some (some b) → b < E.H0.length → i = b)
    (hF : ∀ g, CvF g m H false F (F' g)) (hH : ∀ g, CvH g m H false m (H' g)) (h : ∀ g, K (F' g) (H' g)) : Wk N E F H K := fun S ρ a w hR => by
  have hH' := hH (AV.den ρ H)
  refine ⟨newS false m ρ H S, reB ρ m, _, _, h (AV.den ρ H), hR.df, hR.sz, fun i x' hx' => ?_, hR.hp.re rfl hm hH', hR.st, fun i B hi => ?_, fun b hb => ?_, fun i hi => ?_, fun hpp i hi => ?_⟩
  · obtain ⟨x, h1, h2⟩ := (hF (AV.den ρ H)).get i x' hx'
    obtain ⟨h3, h4⟩ := hR.fr i x h1
    obtain ⟨h5, h6⟩ := h2.sound hR.hp rfl hH' h4
    exact ⟨by rw [h5]; exact h3, h6⟩
  · rw [atB_reB] at hi
    cases h1 : m[i]? with
    | none => rw [h1] at hi; cases hi
    | some y =>
      cases y with
      | none => rw [h1] at hi; cases hi
      | some b =>
        rw [h1] at hi
        rcases hR.nw b B hi with h2 | ⟨h2, h3⟩
        · exact .inl h2
        · have := hk i b h1 h2
          subst this
          exact .inr ⟨h2, h3⟩
  · rcases hb with hb | ⟨hf, _⟩
    · exact hR.nS b hb
    · cases hf
  · obtain ⟨h1, h2⟩ := hR.ln i hi
    obtain ⟨j, hmi, hj⟩ := hl i hi
    refine ⟨(hH'.at_ hmi).1, fun o ho hs => ?_⟩
    obtain ⟨h3, o', h4, h4s⟩ := h2 o ho hs
    rcases hj with rfl | ⟨_, h5⟩
    · obtain ⟨o2, h6, h7⟩ := hH'.shp hmi h4 (by rw [h4s]; exact hs)
      exact ⟨by rw [atB_reB, hmi]; exact h3, o2, h6, h7.trans h4s⟩
    · exact absurd (h5 o' h4) (by rw [h4s]; exact hs)
  · rw [hp] at hpp; cases hpp
/-- What is left may be restated at the end. -/
theorem aw_post {P : Program} {c : Code} {Q : Exit → Fm → List OB → Prop} (h : AW P N E c F H (fun e F H => Wk N E F H (Q e))) : AW P N E c F H Q := fun S ρ a w hR =>
  wp_mono (h S ρ a w hR) fun _ a' w' ⟨S1, ρ1, F1, H1, h1, hR1⟩ => by
    obtain ⟨S2, ρ2, F2, H2, h2, hR2⟩ := h1 S1 ρ1 a' w' hR1
    exact ⟨S2, ρ2, F2, H2, h2, hR2⟩
def okR (n : Nat) (m : List (Option Nat)) (H : List OB) : Bool :=
  ((List.range n).all fun i => match m[i]? with
    | some (some j) => Nat.beq j i || (Nat.ble n j && match H[i]? with | some (.box _) => false | some (.map _ _) => false | _ => true)
    | _ => false) && ((List.range m.length).all fun i => match m[i]? with
    | some (some b) => Nat.ble n b || Nat.beq b i
    | _ => true)
theorem okR_l {n : Nat} {m : List (Option Nat)} (hE : E.H0.length = n) (h : okR n m H = true) : ∀ i, i < E.H0.length → ∃ j, m[i]? = some (some j) ∧ (j = i ∨ (E.H0.length ≤ j ∧ ∀ o, H[i]? = some o → o.shp = 0)) := fun i hi => by
  unfold okR at h
  rw [Bool.and_eq_true] at h
  have h1 := List.all_eq_true.1 h.1 i (by rw [List.mem_range]; omega)
  split at h1
  · rename_i j hj
    refine ⟨j, hj, ?_⟩
    rw [Bool.or_eq_true, Bool.and_eq_true] at h1
    rcases h1 with h1 | ⟨h1, h2⟩
    · exact .inl (Nat.eq_of_beq_eq_true h1)
    · refine .inr ⟨by have := Nat.le_of_ble_eq_true h1; omega, ?_⟩
      intro o hl
      rw [hl] at h2
      cases o <;> first | rfl | cases h2
  · cases h1
theorem okR_k {n : Nat} {m : List (Option Nat)} (hE : E.H0.length = n) (h : okR n m H = true) : ∀ i b, m[i]? = some (some b) → b < E.H0.length → i = b := fun i b hi hb => by
  unfold okR at h
  rw [Bool.and_eq_true] at h
  have h1 := List.all_eq_true.1 h.2 i (by rw [List.mem_range]; exact (List.getElem?_eq_some_iff.1 hi).1)
  rw [hi] at h1
  simp only [Bool.or_eq_true] at h1
  rcases h1 with h1 | h1
  · have := Nat.le_of_ble_eq_true h1; omega
  · exact (Nat.eq_of_beq_eq_true h1).symm
theorem wk_ofk {n : Nat} (m : List (Option Nat)) (F' : (AV → Value) → Fm) (H' : (AV → Value) → List OB) (hE : E.H0.length = n) (hp : E.pin = false) (hm : (m.filterMap id).Nodup) (ho : okR n m H = true) (hF : ∀ g, CvF g m H false F (F' g)) (hH : ∀ g, CvH g m H false m (H' g)) (h : ∀ g, K (F' g) (H' g)) : Wk N E F H K :=
  wk_ofr m F' H' hm hp (okR_l hE ho) (okR_k hE ho) hF hH h
/-- A value is said by its cells alone; a new block says which it is. -/
theorem wk_ghost {i : Nat} {x : AV} (hx : F.lookup i = some x) (h : ∀ ρ : List (Option Nat), K ((i, .c (.s (x.den ρ H))) :: F) (H ++ [.eqv x (x.den ρ H)])) : Wk N E F H K := fun S ρ a w hR => by
  have he := Ex.snoc (ρ := ρ) (H := H) hR.hp.len none (.eqv x (x.den ρ H))
  obtain ⟨h1, h2⟩ := hR.fr i x hx
  have hR2 : R N E S (ρ ++ [none]) F (H ++ [.eqv x (x.den ρ H)]) a w := by
    refine hR.ex he Mo.refl ⟨by simp [hR.hp.len], fun j j' B hj hj' => ?_, fun j B hj => ?_, fun j B hj => ?_, hR.hp.sS, fun j o ho => ?_⟩ hR.st (fun j B hj => ?_) hR.nS
    · rw [atB_snoc] at hj hj'
      split at hj
      · cases hj
      · split at hj'
        · cases hj'
        · exact hR.hp.nd j j' B hj hj'
    · rw [atB_snoc] at hj
      split at hj
      · cases hj
      · exact hR.hp.ap j B hj
    · rw [atB_snoc] at hj
      split at hj
      · cases hj
      · exact hR.hp.lt j B hj
    · rcases Nat.lt_or_ge j H.length with hlt | hge
      · rw [List.getElem?_append_left hlt] at ho
        rw [atB_snoc, if_neg (by rw [hR.hp.len]; omega)]
        exact (hR.hp.blk j o ho).ex he Mo.refl (fun _ _ => rfl)
      · rw [List.getElem?_append_right hge] at ho
        cases hq : j - H.length with
        | zero =>
          rw [hq] at ho
          simp only [List.getElem?_cons_zero, Option.some.injEq] at ho
          subst ho
          exact ⟨h2.den_ex he, h2.ex he Mo.refl⟩
        | succ n => rw [hq] at ho; simp at ho
    · rw [atB_snoc] at hj
      split at hj
      · cases hj
      · exact hR.nw j B hj
  refine ⟨S, ρ ++ [none], _, _, h ρ, hR2.df, hR2.sz, fun j y hj => ?_, hR2.hp, hR2.st, hR2.nw, hR2.nS, hR2.ln, hR2.pn⟩
  rw [List.lookup_cons] at hj
  split at hj
  · rename_i he2
    obtain rfl : j = i := by simpa using he2
    injection hj with hj
    subst hj
    exact ⟨h1, .c (.s _)⟩
  · exact hR2.fr j y hj
/-- .. and back. -/
theorem wk_thaw {i b : Nat} {x : AV} {v : Value} (hx : F.lookup i = some (.c (.s v))) (hb : H[b]? = some (.eqv x v)) (h : K ((i, x) :: F) H) : Wk N E F H K := fun S ρ a w hR => by
  obtain ⟨h1, h2⟩ := hR.hp.blk b _ hb
  refine ⟨S, ρ, _, _, h, hR.df, hR.sz, fun j y hj => ?_, hR.hp, hR.st, hR.nw, hR.nS, hR.ln, hR.pn⟩
  rw [List.lookup_cons] at hj
  split at hj
  · rename_i he2
    obtain rfl : j = i := by simpa using he2
    injection hj with hj
    subst hj
    exact ⟨by rw [h1]; exact (hR.fr j _ hx).1, h2⟩
  · exact hR.fr j y hj
end
section
variable {P : Program} {N : Nat} {E : Env} {F : Fm} {H : List OB} {K : Fm → List OB → Prop} {Q : Exit → Fm → List OB → Prop} {ops : Array Oper}
theorem at_wk {L : List (Nat × Option (List Nat))} (h : Wk N E F H K) (hk : ∀ F' H', K F' H' → AT P N E ops L F' H' Q) : AT P N E ops L F H Q := fun S ρ a w hR => by
  obtain ⟨S', ρ', F', H', h1, h2⟩ := h S ρ a w hR
  exact hk F' H' h1 S' ρ' a w h2
theorem am_wk {n : Nat} {ps : List Plan} (h : Wk N E F H K) (hk : ∀ F' H', K F' H' → AM P N E ops n ps F' H' Q) : AM P N E ops n ps F H Q := fun S ρ a w hR => by
  obtain ⟨S', ρ', F', H', h1, h2⟩ := h S ρ a w hR
  exact hk F' H' h1 S' ρ' a w h2
theorem aw_ghost {i b k n cap : Nat} {c : Code} (hx : F.lookup i = some (.o b k n cap)) (h : ∀ A : Option Addr, AW P N E c ((i, .c (.s (.slice A n cap))) :: F) (H ++ [.eqv (.o b k n cap) (.slice A n cap)]) Q) : AW P N E c F H Q :=
  aw_wk (wk_ghost (K := fun F' H' => ∃ A : Option Addr, F' = (i, .c (.s (.slice A n cap))) :: F ∧ H' = H ++ [.eqv (.o b k n cap) (.slice A n cap)]) hx fun ρ => ⟨_, rfl, rfl⟩) fun F' H' ⟨A, h1, h2⟩ => by subst h1; subst h2; exact h A
theorem aw_thaw {i b : Nat} {x : AV} {v : Value} {c : Code} (hx : F.lookup i = some (.c (.s v))) (hb : H[b]? = some (.eqv x v)) (h : AW P N E c ((i, x) :: F) H Q) : AW P N E c F H Q :=
  aw_wk (wk_thaw (K := fun F' H' => F' = (i, x) :: F ∧ H' = H) hx hb ⟨rfl, rfl⟩) fun F' H' ⟨h1, h2⟩ => by subst h1; subst h2; exact h
theorem al_ghost {i b k n cap : Nat} {l : List Oper} (hx : F.lookup i = some (.o b k n cap)) (h : ∀ A : Option Addr, AL P N E ops l ((i, .c (.s (.slice A n cap))) :: F) (H ++ [.eqv (.o b k n cap) (.slice A n cap)]) Q) : AL P N E ops l F H Q :=
  al_wk (wk_ghost (K := fun F' H' => ∃ A : Option Addr, F' = (i, .c (.s (.slice A n cap))) :: F ∧ H' = H ++ [.eqv (.o b k n cap) (.slice A n cap)]) hx fun ρ => ⟨_, rfl, rfl⟩) fun F' H' ⟨A, h1, h2⟩ => by subst h1; subst h2; exact h A
theorem al_thaw {i b : Nat} {x : AV} {v : Value} {l : List Oper} (hx : F.lookup i = some (.c (.s v))) (hb : H[b]? = some (.eqv x v)) (h : AL P N E ops l ((i, x) :: F) H Q) : AL P N E ops l F H Q :=
  al_wk (wk_thaw (K := fun F' H' => F' = (i, x) :: F ∧ H' = H) hx hb ⟨rfl, rfl⟩) fun F' H' ⟨h1, h2⟩ => by subst h1; subst h2; exact h
theorem at_ghost {i b k n cap : Nat} {L : List (Nat × Option (List Nat))} (hx : F.lookup i = some (.o b k n cap)) (h : ∀ A : Option Addr, AT P N E ops L ((i, .c (.s (.slice A n cap))) :: F) (H ++ [.eqv (.o b k n cap) (.slice A n cap)]) Q) : AT P N E ops L F H Q :=
  at_wk (wk_ghost (K := fun F' H' => ∃ A : Option Addr, F' = (i, .c (.s (.slice A n cap))) :: F ∧ H' = H ++ [.eqv (.o b k n cap) (.slice A n cap)]) hx fun ρ => ⟨_, rfl, rfl⟩) fun F' H' ⟨A, h1, h2⟩ => by subst h1; subst h2; exact h A
theorem at_thaw {i b : Nat} {x : AV} {v : Value} {L : List (Nat × Option (List Nat))} (hx : F.lookup i = some (.c (.s v))) (hb : H[b]? = some (.eqv x v)) (h : AT P N E ops L ((i, x) :: F) H Q) : AT P N E ops L F H Q :=
  at_wk (wk_thaw (K := fun F' H' => F' = (i, x) :: F ∧ H' = H) hx hb ⟨rfl, rfl⟩) fun F' H' ⟨h1, h2⟩ => by subst h1; subst h2; exact h
theorem am_ghost {i b k n cap : Nat} {n0 : Nat} {ps : List Plan} (hx : F.lookup i = some (.o b k n cap)) (h : ∀ A : Option Addr, AM P N E ops n0 ps ((i, .c (.s (.slice A n cap))) :: F) (H ++ [.eqv (.o b k n cap) (.slice A n cap)]) Q) : AM P N E ops n0 ps F H Q :=
  am_wk (wk_ghost (K := fun F' H' => ∃ A : Option Addr, F' = (i, .c (.s (.slice A n cap))) :: F ∧ H' = H ++ [.eqv (.o b k n cap) (.slice A n cap)]) hx fun ρ => ⟨_, rfl, rfl⟩) fun F' H' ⟨A, h1, h2⟩ => by subst h1; subst h2; exact h A
theorem am_thaw {i b : Nat} {x : AV} {v : Value} {n0 : Nat} {ps : List Plan} (hx : F.lookup i = some (.c (.s v))) (hb : H[b]? = some (.eqv x v)) (h : AM P N E ops n0 ps ((i, x) :: F) H Q) : AM P N E ops n0 ps F H Q :=
  am_wk (wk_thaw (K := fun F' H' => F' = (i, x) :: F ∧ H' = H) hx hb ⟨rfl, rfl⟩) fun F' H' ⟨h1, h2⟩ => by subst h1; subst h2; exact h
end
theorem aw_cutq {P : Program} {N : Nat} {E : Env} {F : Fm} {H : List OB} {Q : Exit → Fm → List OB → Prop} {c : Code} (J : Fm → List OB → Prop) (h : AW P N E c F H (ASeq (fun F' H' => Wk N E F' H' J) Q)) (hJ : ∀ F H, J F H → Q .normal F H) (hK : ∀ F H, Wk N E F H (fun F H => Q .normal F H) → Q .normal F H) : AW P N E c F H Q :=
  aw_mono h fun e F H hh => by
    cases e
    case normal =>
      refine hK F H (fun S ρ a w hR => ?_)
      obtain ⟨S', ρ', F', H', h1, h2⟩ := hh S ρ a w hR
      exact ⟨S', ρ', F', H', hJ _ _ h1, h2⟩
    all_goals exact hh
theorem ZCG {p : Prop} (h : p := by intro _g; (repeat first | exact K0 | apply K1 rfl | apply K2 rfl rfl | apply K2 rfl (by first | assumption | (rw [Nat.zero_add]; assumption)) | apply K2 rfl (by simp) | apply CvH.eqv rfl | apply K3 | apply CvH.oth rfl (.map rfl) | apply CvH.oth rfl (.itr rfl rfl) | apply CvH.oth rfl (.sit rfl) | exact L0 | apply L1 | exact V1 rfl | exact V2 rfl | exact V3 rfl rfl | exact V4 | exact Cvt.mp rfl | exact V5 rfl | exact V3 rfl (by first | (simp; omega) | simp) | exact V1 (by first | (simp; omega) | simp) | exact V6 rfl rfl (by first | rfl | simp) (by simp) rfl | apply V7 | apply V8 | apply V9); fail_if_success focus skip) : p := h
end Go.Proofs.YthanangkmjjbaaaGreatDoor
