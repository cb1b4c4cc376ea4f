/- The program's faults of a run, by value. -/
import Derived.Test.YtdmeohgojdfmoaaGreatQau
import Derived.Test.YtdmeohgojdfmoaaGreatQas
import Derived.Test.YtdmeohgojdfmoaaGreatQar
set_option linter.unusedSimpArgs false
set_option linter.unusedVariables false
/- The program's faults of programs, by value. -/
namespace Go.Proofs.YtdmeohgojdfmoaaGreat
open Go Go.RowKit
set_option maxRecDepth 100000
theorem check_a (l : List Step) (v : Value) (hl : l.length ≤ 1000000000) : ACalls Tryz.prog 20 [.c (prog_r v l)] [] fun u H => u = .c (I (progF l)) ∧ H = [] := by
  have e1 : (l.map Step.row).length = l.length := by simp
  refine acalls_of (N := 21) Tryz.func20 rfl rfl (by simp) fun E hE => ?_
  refine WA ?_
  refine WA ?_
  refine aw_if rfl (fun hbig => ?_) (fun hbig => ?_)
  · refine WA ?_
    refine aret_1 [] _ rfl rfl rfl (by decide) (ZNK rfl) (fun _ => .nil) ⟨?_, rfl⟩
    rw [progF, if_pos (by omega)]
  refine ZZ ?_
  refine WA ?_
  refine aw_loopw (fun m F H => ∃ (k : Nat), m + k = l.length ∧ firstF (l.drop k) = firstF l ∧ F = [(9, .c (prog_r v l)), (10, .c (I (l.map Step.row).length)), (11, .c (I k))] ∧ H = []) ?_ ?_
  · refine wk_of [] (fun _ => [(9, .c (prog_r v l)), (10, .c (I (l.map Step.row).length)), (11, .c (I (0 : Nat)))]) (fun _ => _) (by decide) (ZNL hE) ZCF (fun _ => .nil) (fun _ => ?_)
    exact ⟨l.length, 0, by omega, rfl, rfl, rfl⟩
  rintro m F H ⟨k, hk, hf, rfl, rfl⟩
  refine WA ?_
  refine aw_if rfl (fun hlt => ?_) (fun hge => ?_)
  · obtain ⟨s, hs⟩ : ∃ s, l[k]? = some s := ⟨_, List.getElem?_eq_getElem (by omega)⟩
    have hrow : (l.map Step.row)[k]? = some s.row := by rw [List.getElem?_map, hs]; rfl
    have hfd := firstF_drop hs
    refine WA ?_
    refine WR ?_
    refine al_ef rfl (ef_call0 false (fun _ => fault_a s) rfl .fn rfl (by decide) (by kernel_rfl) rfl (fun _ => C0 rfl) (by simp)) ?_
    rintro _ _ ⟨_, _, _, ⟨rfl, rfl⟩, hF, hH⟩
    (try simp only [nsl, Nat.reduceAdd, Nat.reduceLT, Nat.reduceSub] at hF); (try simp only [nsl, Nat.reduceAdd, Nat.reduceLT, Nat.reduceSub] at hH); subst hF; subst hH
    refine WE ?_
    refine WA ?_
    refine aw_if rfl (fun hne => ?_) (fun heq => ?_)
    · refine WA ?_
      refine aret_1 [] _ rfl rfl rfl (by decide) (ZNK rfl) (fun _ => .nil) ⟨?_, rfl⟩
      rw [progF, if_neg (by omega), ← hf, hfd, if_neg hne]
    · refine WA ?_
      refine wk_of [] (fun _ => [(9, .c (prog_r v l)), (10, .c (I (l.map Step.row).length)), (11, .c (I (k + 1 : Nat)))]) (fun _ => _) (by decide) (ZNL hE) ZCF (fun _ => .nil) (fun _ => ?_)
      exact ⟨m - 1, by omega, k + 1, by omega, by rw [← hf, hfd, if_pos (by omega)], rfl, rfl⟩
  refine WA ?_
  refine aret_1 [] _ rfl rfl rfl (by decide) (ZNK rfl) (fun _ => .nil) ⟨?_, rfl⟩
  rw [progF, if_neg (by omega), ← hf, List.drop_eq_nil_of_le (by omega)]; rfl
end Go.Proofs.YtdmeohgojdfmoaaGreat

/- Running programs, by value. -/
namespace Go.Proofs.YtdmeohgojdfmoaaGreat
open Go Go.RowKit
set_option maxRecDepth 100000
theorem lastS_succ {l : List Step} {k : Nat} {s : Step} (h : l[k]? = some s) : lastS (l.take (k + 1)) = afterS (lastS (l.take k)) s := by
  rw [take_next h, lastS, List.foldl_append]; rfl
end Go.Proofs.YtdmeohgojdfmoaaGreat

/- Running programs with their statuses, by value. -/
namespace Go.Proofs.YtdmeohgojdfmoaaGreat
open Go Go.RowKit
set_option maxRecDepth 100000
abbrev runsK (l : List Step) (k : Nat) : List Mach := (List.range k).map fun i => lastS (l.take (i + 1))
end Go.Proofs.YtdmeohgojdfmoaaGreat

/- A slice literal that is only read from the first; slices of what is only read; several orders, walked in one step. -/
namespace Go.Proofs.YtdmeohgojdfmoaaGreat
open Go Go.RowKit
set_option maxRecDepth 100000
section
variable {P : Program} {N : Nat} {E : Env} {F : Fm} {H : List OB} {o : Oper}
theorem ef_bslr {t e : TypeId} {sz n d : Nat} {ps : Array (Nat × Operand)} {rows : List (List CV)} {z : Value} (ho : o.op = .buildSlice t n ps) (hd : o.dst = some d) (hN : d < N) (ht : elemSz P t = some (e, sz)) (hp : Parts F 0 ps.toList rows) (hn : rows.length = n)
    (hz : (P.info? e).bind (·.zero) = some z) (hzs : z.cells.size = sz) (hr : rows.all (fun row => row.length == sz && row.all CV.one) = true) (hle : n * sz ≤ 16777216) (hnm : n ≤ 16777216) :
    Ef P N E o F H fun F' H' => ∃ v, F' = (d, .c (.r v rows)) :: F ∧ H' = H := fun S ρ a w hR => by
  obtain ⟨hu, i, hi, hs⟩ := elemSz_spec ht
  have hu' : (underlying t).run P w = .ok (.slice e) w := by unfold underlying; simp [hu]
  have hsz : (sizeOf e).run P w = .ok sz w := by simp [sizeOf, typeInfo, hi, hs]
  have hzr : (zeroValue e).run P w = .ok z w := by
    unfold zeroValue typeInfo
    rw [hi] at hz
    simp only [Option.bind_some] at hz
    simp [hi, hz]
  subst hn
  have hr : ∀ row ∈ rows, row.length = sz ∧ ∀ u ∈ row, u.one = true := by simpa using hr
  obtain ⟨⟨cs', h1, h2, _, h4⟩, h5⟩ := fill_parts (sz := sz) hR hp ((Array.range (rows.length * sz)).map ((if rows.length * sz = 0 then #[] else z.cells)[· % (if rows.length * sz = 0 then #[] else z.cells).size]!)) (by simp) hr
  have hpm : (ps.map fun x => (x.1, a.eval x.2)).toList = ps.toList.map fun x => (x.1, a.eval x.2) := by simp
  have hlim : ¬ (rows.length * sz > 2 ^ 24) := by omega
  have hlim0 : ¬ ((0 : Nat) > 2 ^ 24) := by decide
  have hex : (execOp a.eval o).run P w = .ok (.value (.slice (some ⟨w.heap.size, 0, none⟩) rows.length rows.length)) (w.alloc (.cells cs' e)) := by
    by_cases hz0 : rows.length * sz = 0
    · simp only [hz0, if_true] at h1
      simp only [execOp, ho, Instr.buildSlice, Sem.run_bind, hu', Result.andThen_ok, hsz, hlim0, if_false, hz0, if_true, Sem.run_pure, hpm, h1, newRow, run_newObj, World.alloc_eq]
    · simp only [hz0, if_false] at h1
      simp only [execOp, ho, Instr.buildSlice, Sem.run_bind, hu', Result.andThen_ok, hsz, hlim, if_false, hz0, hzr, Sem.run_pure, hpm, h1, newRow, run_newObj, World.alloc_eq]
  unfold effO
  rw [hex]
  let S' : Nat → Prop := fun b => S b ∨ b = w.heap.size
  have hmo : Mo w S (w.alloc (.cells cs' e)) S' := fun b hb => ⟨.inl hb, Below.heap_alloc w _ b (hR.hp.sS b hb)⟩
  have hold : ∀ b, b < w.heap.size → (w.alloc (.cells cs' e)).heap[b]? = w.heap[b]? := fun b hb => Below.heap_alloc w _ b hb
  have hR2 : R N E S' ρ F H a (w.alloc (.cells cs' e)) := hR.ex (Ex.refl _ _) hmo
    ⟨hR.hp.len, hR.hp.nd, fun i B hi hS => by
      rcases hS with hS | hS
      · exact hR.hp.ap i B hi hS
      · have := hR.hp.lt i B hi; omega, fun i B hi => by have := hR.hp.lt i B hi; simp; omega, fun b hb => by
      rcases hb with hb | hb
      · have := hR.hp.sS b hb; simp; omega
      · subst hb; simp, fun i ob hob => (hR.hp.blk i ob hob).ex (Ex.refl _ _) hmo (fun B hB => hold B (hR.hp.lt i B hB))⟩
    (hR.st.alloc _) hR.nw (fun b hb => by
      rcases hb with hb | hb
      · exact hR.nS b hb
      · subst hb; exact .inr hR.st.size)
  refine ⟨S', ρ, _, _, ⟨.slice (some ⟨w.heap.size, 0, none⟩) rows.length rows.length, rfl, rfl⟩, ?_⟩
  rw [hd]
  refine hR2.put hN (.c (.r rows w.heap.size 0 sz rows.length rows.length rfl (Nat.le_refl _) (.inr rfl) (fun row hrow => (hr row hrow).1) (fun k j row u hk hj => ?_) (fun row hrow u hu => (h5 row hrow u hu).1.mono hmo)))
  have h6 := h4 k j row u hk hj
  rw [Nat.zero_add] at h6 ⊢
  rw [World.cell?, heap_new]
  simpa using h6
end
section
variable {N : Nat} {E : Env} {F : Fm} {H : List OB} {o : Oper}
theorem Ybsr {t e : TypeId} {sz k d : Nat} {ps : Array (Nat × Operand)} {rows : List (List CV)} {z : Value} {q : Nat × Nat} (ho : o.op = .buildSlice t k ps := by exact rfl) (ht : bE.get t = some (e, sz) := by exact rfl) (hz : bI.get e = some (z, q) := by exact rfl) (hp : partsC F 0 ps.toList = some rows := by exact rfl) (hd : o.dst = some d := by exact rfl) (hN : d < N := by decide) (hn : rows.length = k := by exact rfl) (hzs : z.cells.size = sz := by exact rfl) (hr : rows.all (fun row => row.length == sz && row.all CV.one) = true := by exact rfl) (hle : k * sz ≤ 16777216 := by simp) (hnm : k ≤ 16777216 := by simp) : Ef Tryz.prog N E o F H fun F' H' => ∃ v, F' = (d, .c (.r v rows)) :: F ∧ H' = H := ef_bslr ho hd hN (KE ht) (partsC_of hp) hn (KZ hz) hzs hr hle hnm
theorem Yslr {t e : TypeId} {sz : Nat} {x : Operand} {lo hi : Option Operand} {l h : Nat} {v : Value} {rows : List (List CV)} (ho : o.op = .slice t x lo hi none := by exact rfl) (ht : bE.get t = some (e, sz) := by exact rfl) (hx : ev F x = some (.c (.r v rows)) := by exact rfl) (hlo : (lo = none ∧ l = 0) ∨ ∃ y kd z, lo = some y ∧ ev F y = some (.c (.s (.int kd z))) ∧ z = l := by first | exact .inl ⟨rfl, rfl⟩ | exact .inr ⟨_, _, _, rfl, rfl, by first | rfl | omega⟩)
    (hhi : (hi = none ∧ h = rows.length) ∨ ∃ y kd z, hi = some y ∧ ev F y = some (.c (.s (.int kd z))) ∧ z = h := by first | exact .inl ⟨rfl, rfl⟩ | exact .inr ⟨_, _, _, rfl, rfl, by first | rfl | omega⟩) (hrow : ∀ row ∈ rows, row.length = sz := by assumption) (hlh : l ≤ h := by omega) (hhc : h ≤ rows.length := by omega) : Rd Tryz.prog N E o F H (.c (.r (subV v l h sz) ((rows.take h).drop l))) := rd_slicer ho (KE ht) hx hrow hlo hhi hlh hhc
variable {Q : Exit → Fm → List OB → Prop} {ops : Array Oper}
/-- The next operation, where several orders go on alike. -/
def AM1 (P : Program) (N : Nat) (E : Env) (ops : Array Oper) (o : Oper) (i : Nat) (U : Option (List Nat)) (n : Nat) (ps : List Plan) (F : Fm) (H : List OB) (Q : Exit → Fm → List OB → Prop) : Prop := ops[i]? = some o → headsOf ps = [(i, U)] → AM P N E ops (n + 1) ps F H Q
theorem dkm {P : Program} {k i n : Nat} {U : Option (List Nat)} {ps : List Plan} (hh : headsOf ps = [(i, U)]) (hi : ops[i]? = some o) (ho : okc ops o F = some k) (h : KD k (AM1 P N E ops o i U n ps F H Q)) : AM P N E ops (n + 1) ps F H Q := (show AM1 P N E ops o i U n ps F H Q from h) hi hh
theorem am_rdg {P : Program} {i n d : Nat} {x : AV} {ps : List Plan} (hr : Rd P N E o F H x) (h : AM P N E ops n (tailsOf (i, none) ps) ((d, x) :: F) H Q) (hg : gok ops o F = true := by exact rfl) (hd : o.dst = some d := by exact rfl) (hN : d < N := by decide) : AM1 P N E ops o i none n ps F H Q := fun ho hh S ρ a w hR => by
  obtain ⟨h1, h2⟩ := hr S ρ a w hR
  refine wpM_r hh rfl ho fun K hK => ?_
  rw [if_pos (wanted_of (P := P) hg hR)]
  unfold Oper.still
  rw [h1]
  refine ⟨rfl, hK _ ?_⟩
  rw [hd]
  exact h S ρ _ w (hR.put hN h2)
theorem am_skip {P : Program} {i n d : Nat} {ps : List Plan} (hg : gd ops o F = some false) (hd : o.dst = some d) (hN : d < N) (h : AM P N E ops n (tailsOf (i, none) ps) ((d, un) :: F) H Q) : AM1 P N E ops o i none n ps F H Q := fun ho hh S ρ a w hR => by
  refine wpM_r hh rfl ho fun K hK => ?_
  have hw : ¬ Region.wanted o (yielded ops a.tmps) = true := by
    obtain ⟨j, b, oj, t, h1, h2, h3, ⟨b', h4, h5⟩ | ⟨h4, h5⟩⟩ := gd_of hg
    · simp only [Region.wanted, h1, yielded_of hR h2 h3 h4]
      cases b <;> cases b' <;> simp_all
    · simp [Region.wanted, h1, skipped_of hR h2 h3 h4]
  rw [if_neg hw, hd]
  exact hK _ (h S ρ _ w (hR.put hN (.c (.s _))))
theorem M5 {i n d : Nat} {v : AV} {ps : List Plan} (h : rdT N ops o F H = some (d, v)) (k : AM Tryz.prog N E ops n (tailsOf (i, none) ps) ((d, v) :: F) H Q) : AM1 Tryz.prog N E ops o i none n ps F H Q := by
  obtain ⟨h1, h2, ⟨rfl, h3⟩ | ⟨h3, h4⟩⟩ := rdT_of h
  · exact am_skip h3 h1 h2 k
  · exact am_rdg (rdV_of h4) k h3 h1 h2
theorem am_efg {P : Program} {F2 : Fm} {H2 : List OB} {i n : Nat} {U : List Nat} {ps : List Plan} (hr : Ef P N E o F H fun F' H' => F' = F2 ∧ H' = H2) (hU : ∀ j ∈ U, Ag P N E ops F2 H2 j) (h : AM P N E ops n (tailsOf (i, some U) ps) F2 H2 Q) (hg : gok ops o F = true := by exact rfl) : AM1 P N E ops o i (some U) n ps F H Q := fun ho hh S ρ a w hR => by
  refine wpM_e hh rfl ho fun K' hK => ?_
  rw [if_pos (wanted_of (P := P) hg hR)]
  refine effO_mono (fun a' w' hh => ?_) (hr S ρ a w hR)
  obtain ⟨S', ρ', F', H', ⟨h1, h2⟩, hR'⟩ := hh
  subst h1; subst h2
  exact hK _ _ (fun j hj => hU j hj S' ρ' a' w' hR') (h S' ρ' a' w' hR')
/-- One operation of several orders. -/
theorem WX3 {G A : Prop} (h : G) (hs : Hid G → A := by (intro h; refine dkm rfl rfl rfl ?_; (first | ((with_reducible refine kd 20 ?_); refine M5 rfl ?_) | ((with_reducible refine kd 4 ?_); first | refine M5 rfl ?_ | refine am_rdg YL ?_ | refine am_rdg YK ?_) | ((with_reducible refine kd 1 ?_); first | refine am_rdg Zeql ?_ | refine am_rdg Zadd ?_ | refine am_rdg Zlss ?_ | refine am_rdg Zneq ?_ | refine am_rdg Zsub ?_ | refine am_rdg Zmul ?_ | refine am_rdg Zgtr ?_ | refine am_rdg Zleq ?_ | refine am_rdg Zgeq ?_ | refine am_rdg Zquo ?_ | refine am_rdg Zquw ?_ | refine am_rdg Zrem ?_ | refine am_rdg Zrew ?_ | refine am_rdg Ynil ?_ | refine am_rdg Yeqb ?_ | refine am_rdg Yneb ?_) | ((with_reducible refine kd 2 ?_); first | refine am_efg Ysto (by (repeat first | exact ag_none | (refine ag_cons (by first | exact agT rfl rfl rfl rfl | exact agX (hr := YL) | exact agX (hr := YK) | exact agX (hr := YIj) | exact agX (hr := YJ) | exact agX (hr := YI) | exact agX (hr := Ybld) | exact agAdd | exact agSub | exact agMul | exact agX (hr := Ysli) | exact agX (hr := Yslr) | exact agX (hr := Zquo) | exact agX (hr := Zrem) | exact agX (hr := Zlss) | exact agX (hr := Zeql) | exact agX (hr := Zneq)) ?_))) ?_ | refine am_efg Ystr (by (repeat first | exact ag_none | (refine ag_cons (by first | exact agT rfl rfl rfl rfl | exact agX (hr := YL) | exact agX (hr := YK) | exact agX (hr := YIj) | exact agX (hr := YJ) | exact agX (hr := YI) | exact agX (hr := Ybld) | exact agAdd | exact agSub | exact agMul | exact agX (hr := Ysli) | exact agX (hr := Yslr) | exact agX (hr := Zquo) | exact agX (hr := Zrem) | exact agX (hr := Zlss) | exact agX (hr := Zeql) | exact agX (hr := Zneq)) ?_))) ?_) | ((with_reducible refine kd 3 ?_); first | refine am_rdg YI ?_ | refine am_rdg YJ ?_) | ((with_reducible refine kd 14 ?_); first | refine M5 rfl ?_ | refine am_rdg (rd_lens rfl Tryz.underlying9 rfl) ?_) | ((with_reducible refine kd 5 ?_); first | refine am_rdg Ysli ?_ | refine am_rdg Yslr ?_) | ((with_reducible refine kd 6 ?_); refine am_efg Ybsl (by (repeat first | exact ag_none | (refine ag_cons (by first | exact agT rfl rfl rfl rfl | exact agX (hr := YL) | exact agX (hr := YK) | exact agX (hr := YIj) | exact agX (hr := YJ) | exact agX (hr := YI) | exact agX (hr := Ybld) | exact agAdd | exact agSub | exact agMul | exact agX (hr := Ysli) | exact agX (hr := Yslr) | exact agX (hr := Zquo) | exact agX (hr := Zrem) | exact agX (hr := Zlss) | exact agX (hr := Zeql) | exact agX (hr := Zneq)) ?_))) ?_) | ((with_reducible refine kd 7 ?_); refine am_efg Yall (by (repeat first | exact ag_none | (refine ag_cons (by first | exact agT rfl rfl rfl rfl | exact agX (hr := YL) | exact agX (hr := YK) | exact agX (hr := YIj) | exact agX (hr := YJ) | exact agX (hr := YI) | exact agX (hr := Ybld) | exact agAdd | exact agSub | exact agMul | exact agX (hr := Ysli) | exact agX (hr := Yslr) | exact agX (hr := Zquo) | exact agX (hr := Zrem) | exact agX (hr := Zlss) | exact agX (hr := Zeql) | exact agX (hr := Zneq)) ?_))) ?_) | ((with_reducible refine kd 8 ?_); refine am_efg Zbox (by (repeat first | exact ag_none | (refine ag_cons (by first | exact agT rfl rfl rfl rfl | exact agX (hr := YL) | exact agX (hr := YK) | exact agX (hr := YIj) | exact agX (hr := YJ) | exact agX (hr := YI) | exact agX (hr := Ybld) | exact agAdd | exact agSub | exact agMul | exact agX (hr := Ysli) | exact agX (hr := Yslr) | exact agX (hr := Zquo) | exact agX (hr := Zrem) | exact agX (hr := Zlss) | exact agX (hr := Zeql) | exact agX (hr := Zneq)) ?_))) ?_) | ((with_reducible refine kd 9 ?_); refine am_rdg Ybld ?_) | ((with_reducible refine kd 10 ?_); refine am_rdg Yneg ?_) | ((with_reducible refine kd 11 ?_); refine am_rdg Ymkf ?_) | ((with_reducible refine kd 12 ?_); refine am_efg Ymak (by (repeat first | exact ag_none | (refine ag_cons (by first | exact agT rfl rfl rfl rfl | exact agX (hr := YL) | exact agX (hr := YK) | exact agX (hr := YIj) | exact agX (hr := YJ) | exact agX (hr := YI) | exact agX (hr := Ybld) | exact agAdd | exact agSub | exact agMul | exact agX (hr := Ysli) | exact agX (hr := Yslr) | exact agX (hr := Zquo) | exact agX (hr := Zrem) | exact agX (hr := Zlss) | exact agX (hr := Zeql) | exact agX (hr := Zneq)) ?_))) ?_) | ((with_reducible refine kd 13 ?_); first | refine am_rdg (rd_min2 (ty := 0) rfl rfl rfl) ?_ | refine am_rdg (rd_max2 rfl rfl rfl) ?_ | refine am_rdg (rd_min3 rfl rfl rfl rfl) ?_ | refine am_rdg (rd_max3 rfl rfl rfl rfl) ?_ | refine am_rdg (rd_min4 rfl rfl rfl rfl rfl) ?_)); exact h.out)) : A := hs ⟨h⟩
/-- Operations of several orders, as far as they go on alike. -/
theorem WM {G A : Prop} (h : G) (hs : Hid G → A := by (intro h; (repeat refine WX3 ?_); exact h.out)) : A := hs ⟨h⟩
/-- .. to the end. -/
theorem WN {G A : Prop} (h : G) (hs : Hid G → A := by (intro h; (repeat refine WX3 ?_); refine am_nil ?_; (repeat with_reducible first | apply S1 | apply S2 | apply S3 | apply S4 | apply S5 | apply S6 | apply S7 | apply S8 | refine S0 rfl ?_ | apply SA | apply SB | apply SC); exact h.out)) : A := hs ⟨h⟩
/-- Read again. -/
theorem AGX {U : List Nat} (h : ∀ j ∈ U, Ag Tryz.prog N E ops F H j := by (repeat first | exact ag_none | (refine ag_cons (by first | exact agT rfl rfl rfl rfl | exact agX (hr := YL) | exact agX (hr := YK) | exact agX (hr := YIj) | exact agX (hr := YJ) | exact agX (hr := YI) | exact agX (hr := Ybld) | exact agAdd | exact agSub | exact agMul | exact agX (hr := Ysli) | exact agX (hr := Yslr) | exact agX (hr := Zquo) | exact agX (hr := Zrem) | exact agX (hr := Zlss) | exact agX (hr := Zeql) | exact agX (hr := Zneq)) ?_))) : ∀ j ∈ U, Ag Tryz.prog N E ops F H j := h
end
end Go.Proofs.YtdmeohgojdfmoaaGreat

/- The program's faults of a run, by value. -/
namespace Go.Proofs.YtdmeohgojdfmoaaGreat
open Go Go.RowKit
set_option maxRecDepth 100000
-- NEWM
def wrongF (x : Step) (was is : Mach) (least : Int) : Int :=
  if ¬ (-100000 ≤ is.x ∧ is.x ≤ 100000 ∧ -100000 ≤ is.y ∧ is.y ≤ 100000 ∧ 0 ≤ is.z ∧ is.z ≤ 1000000) then 1
  else if (x.k = 3 ∨ x.k = 4) ∧ is.sp = 0 then 11
  else if x.k = 4 ∧ 0 < x.f ∧ is.he < least then 16
  else if x.k = 5 ∧ is.z < was.z then 7
  else 0
theorem isplaced_h (n : Int) : ACalls Tryz.prog 23 [.c (I n)] [] fun u H => ∃ b : Bool, u = .c (B b) ∧ H = [] ∧ (b = true → n = 3 ∨ n = 4) ∧ (b = false → n ≠ 3 ∧ n ≠ 4) := by
  refine acalls_of (N := 9) Tryz.func23 rfl rfl (by simp) fun E hE => ?_
  by_cases h3 : n = 3
  · repeat' (first
      | (with_reducible refine aw_seq ?_) | (with_reducible refine aseq_n ?_) | (with_reducible refine aseq_r ?_) | (with_reducible refine ablk_n ?_) | (with_reducible refine ablk_r ?_) | (with_reducible refine ablk_e ?_) | (with_reducible refine ablk_o rfl ?_) | (with_reducible refine aseq_e ?_) | (with_reducible refine aw_skip ?_) | (with_reducible refine aw_block ?_) | (with_reducible refine aw_ret ?_) | (with_reducible refine aw_exit ?_)
      | refine aw_cond_t rfl ?_ | refine aw_cond_f rfl ?_ | refine aw_if_t rfl (by assumption) ?_ | refine aw_if_f rfl (by assumption) ?_ | refine aw_if rfl (fun _ => ?_) (fun _ => ?_) | refine aw_cond rfl (fun _ => ?_) (fun _ => ?_)
      | (refine aw_region ?_; refine WE ?_))
    all_goals exact aret_1 [] _ rfl rfl rfl (by decide) (ZNK rfl) (fun _ => .nil) ⟨true, rfl, rfl, fun _ => by omega, by simp⟩
  by_cases h4 : n = 4
  · repeat' (first
      | (with_reducible refine aw_seq ?_) | (with_reducible refine aseq_n ?_) | (with_reducible refine aseq_r ?_) | (with_reducible refine ablk_n ?_) | (with_reducible refine ablk_r ?_) | (with_reducible refine ablk_e ?_) | (with_reducible refine ablk_o rfl ?_) | (with_reducible refine aseq_e ?_) | (with_reducible refine aw_skip ?_) | (with_reducible refine aw_block ?_) | (with_reducible refine aw_ret ?_) | (with_reducible refine aw_exit ?_)
      | refine aw_cond_t rfl ?_ | refine aw_cond_f rfl ?_ | refine aw_if_t rfl (by assumption) ?_ | refine aw_if_f rfl (by assumption) ?_ | refine aw_if rfl (fun _ => ?_) (fun _ => ?_) | refine aw_cond rfl (fun _ => ?_) (fun _ => ?_)
      | (refine aw_region ?_; refine WE ?_))
    all_goals exact aret_1 [] _ rfl rfl rfl (by decide) (ZNK rfl) (fun _ => .nil) ⟨true, rfl, rfl, fun _ => by omega, by simp⟩
  repeat' (first
    | (with_reducible refine aw_seq ?_) | (with_reducible refine aseq_n ?_) | (with_reducible refine aseq_r ?_) | (with_reducible refine ablk_n ?_) | (with_reducible refine ablk_r ?_) | (with_reducible refine ablk_e ?_) | (with_reducible refine ablk_o rfl ?_) | (with_reducible refine aseq_e ?_) | (with_reducible refine aw_skip ?_) | (with_reducible refine aw_block ?_) | (with_reducible refine aw_ret ?_) | (with_reducible refine aw_exit ?_)
    | refine aw_cond_t rfl ?_ | refine aw_cond_f rfl ?_ | refine aw_if_t rfl (by assumption) ?_ | refine aw_if_f rfl (by assumption) ?_ | refine aw_if rfl (fun _ => ?_) (fun _ => ?_) | refine aw_cond rfl (fun _ => ?_) (fun _ => ?_)
    | (refine aw_region ?_; refine WE ?_))
  all_goals exact aret_1 [] _ rfl rfl rfl (by decide) (ZNK rfl) (fun _ => .nil) ⟨false, rfl, rfl, by simp, fun _ => by omega⟩
def faultsK (l : List Step) (least : Int) : Nat → List (Int × Int)
  | 0 => []
  | k + 1 => match l[k]? with
    | some s => if wrongF s (lastS (l.take k)) (lastS (l.take (k + 1))) least ≠ 0 then faultsK l least k ++ [((k : Int), wrongF s (lastS (l.take k)) (lastS (l.take (k + 1))) least)] else faultsK l least k
    | none => faultsK l least k
theorem faultsK_succ {l : List Step} {k : Nat} {s : Step} {least : Int} (h : l[k]? = some s) : faultsK l least (k + 1) = if wrongF s (lastS (l.take k)) (lastS (l.take (k + 1))) least ≠ 0 then faultsK l least k ++ [((k : Int), wrongF s (lastS (l.take k)) (lastS (l.take (k + 1))) least)] else faultsK l least k := by
  simp only [faultsK, h]
theorem faultsK_len (l : List Step) (least : Int) (k : Nat) : (faultsK l least k).length ≤ k := by
  induction k with
  | zero => simp [faultsK]
  | succ k ih =>
    rw [faultsK]
    split
    · split
      · simp; omega
      · omega
    · omega
abbrev fltH (l : List Step) (v : Value) (least : Int) (c d : Nat) (r : List (Int × Int)) : List OB :=
  [.box [.c (prog_r v l)], .box [.c (I least)], .box [.o 4 0 r.length c], .box [.o 5 0 r.length d], .arr 3 1 c (r.map fun z => [I z.1]), .arr 31 1 d (r.map fun z => [I z.2])]
end Go.Proofs.YtdmeohgojdfmoaaGreat
