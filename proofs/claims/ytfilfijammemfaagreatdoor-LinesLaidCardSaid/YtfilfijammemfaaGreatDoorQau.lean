/- Grids, by value: new ones, what is covered, covering. -/
import Derived.Test.YtfilfijammemfaaGreatDoorQap
import Derived.Test.YtfilfijammemfaaGreatDoorQal
import Derived.Test.YtfilfijammemfaaGreatDoorQaq
import Derived.Test.YtfilfijammemfaaGreatDoorQan
import Derived.Test.YtfilfijammemfaaGreatDoorQao
import Derived.Laws.IdiomStrings
import Derived.Laws.BytesString
import Derived.Laws.Externs
import Derived.Test.YtfilfijammemfaaGreatDoorQat
set_option linter.unusedSimpArgs false
set_option linter.unusedVariables false
/- A slice literal that is only read from the first; slices of what is only read; several orders, walked in one step. -/
namespace Go.Proofs.YtfilfijammemfaaGreatDoor
open Go Go.RowKit
set_option maxRecDepth 100000
section
variable {P : Program} {N : Nat} {E : Env} {F : Fm} {H : List OB} {o : Oper}
end
section
variable {N : Nat} {E : Env} {F : Fm} {H : List OB} {o : Oper}
theorem Yslr {t e : TypeId} {sz : Nat} {x : Operand} {lo hi : Option Operand} {l h : Nat} {v : Value} {rows : List (List CV)} (ho : o.op = .slice t x lo hi none := by exact rfl) (ht : bE.get t = some (e, sz) := by exact rfl) (hx : ev F x = some (.c (.r v rows)) := by exact rfl) (hlo : (lo = none ∧ l = 0) ∨ ∃ y kd z, lo = some y ∧ ev F y = some (.c (.s (.int kd z))) ∧ z = l := by first | exact .inl ⟨rfl, rfl⟩ | exact .inr ⟨_, _, _, rfl, rfl, by first | rfl | omega⟩)
    (hhi : (hi = none ∧ h = rows.length) ∨ ∃ y kd z, hi = some y ∧ ev F y = some (.c (.s (.int kd z))) ∧ z = h := by first | exact .inl ⟨rfl, rfl⟩ | exact .inr ⟨_, _, _, rfl, rfl, by first | rfl | omega⟩) (hrow : ∀ row ∈ rows, row.length = sz := by assumption) (hlh : l ≤ h := by omega) (hhc : h ≤ rows.length := by omega) : Rd Tryz.prog N E o F H (.c (.r (subV v l h sz) ((rows.take h).drop l))) := rd_slicer ho (KE ht) hx hrow hlo hhi hlh hhc
variable {Q : Exit → Fm → List OB → Prop} {ops : Array Oper}
def AM1 (P : Program) (N : Nat) (E : Env) (ops : Array Oper) (o : Oper) (i : Nat) (U : Option (List Nat)) (n : Nat) (ps : List Plan) (F : Fm) (H : List OB) (Q : Exit → Fm → List OB → Prop) : Prop := ops[i]? = some o → headsOf ps = [(i, U)] → AM P N E ops (n + 1) ps F H Q
theorem dkm {P : Program} {k i n : Nat} {U : Option (List Nat)} {ps : List Plan} (hh : headsOf ps = [(i, U)]) (hi : ops[i]? = some o) (ho : okc ops o F = some k) (h : KD k (AM1 P N E ops o i U n ps F H Q)) : AM P N E ops (n + 1) ps F H Q := (show AM1 P N E ops o i U n ps F H Q from h) hi hh
theorem am_rdg {P : Program} {i n d : Nat} {x : AV} {ps : List Plan} (hr : Rd P N E o F H x) (h : AM P N E ops n (tailsOf (i, none) ps) ((d, x) :: F) H Q) (hg : gok ops o F = true := by exact rfl) (hd : o.dst = some d := by exact rfl) (hN : d < N := by decide) : AM1 P N E ops o i none n ps F H Q := fun ho hh S ρ a w hR => by
 obtain ⟨h1, h2⟩ := hr S ρ a w hR
 refine wpM_r hh rfl ho fun K hK => ?_
 rw [if_pos (wanted_of (P := P) hg hR)]
 unfold Oper.still
 rw [h1]
 refine ⟨rfl, hK _ ?_⟩
 rw [hd]
 exact h S ρ _ w (hR.put hN h2)
theorem am_skip {P : Program} {i n d : Nat} {ps : List Plan} (hg : gd ops o F = some false) (hd : o.dst = some d) (hN : d < N) (h : AM P N E ops n (tailsOf (i, none) ps) ((d, un) :: F) H Q) : AM1 P N E ops o i none n ps F H Q := fun ho hh S ρ a w hR => by
 refine wpM_r hh rfl ho fun K hK => ?_
 have hw : ¬ Region.wanted o (yielded ops a.tmps) = true := by
  obtain ⟨j, b, oj, t, h1, h2, h3, ⟨b', h4, h5⟩ | ⟨h4, h5⟩⟩ := gd_of hg
  ·simp only [Region.wanted, h1, yielded_of hR h2 h3 h4]
   cases b <;> cases b' <;> simp_all
  ·simp [Region.wanted, h1, skipped_of hR h2 h3 h4]
 rw [if_neg hw, hd]
 exact hK _ (h S ρ _ w (hR.put hN (.c (.s _))))
theorem M5 {i n d : Nat} {v : AV} {ps : List Plan} (h : rdT N ops o F H = some (d, v)) (k : AM Tryz.prog N E ops n (tailsOf (i, none) ps) ((d, v) :: F) H Q) : AM1 Tryz.prog N E ops o i none n ps F H Q := by
 obtain ⟨h1, h2, ⟨rfl, h3⟩ | ⟨h3, h4⟩⟩ := rdT_of h
 ·exact am_skip h3 h1 h2 k
 ·exact am_rdg (rdV_of h4) k h3 h1 h2
theorem am_efg {P : Program} {F2 : Fm} {H2 : List OB} {i n : Nat} {U : List Nat} {ps : List Plan} (hr : Ef P N E o F H fun F' H' => F' = F2 ∧ H' = H2) (hU : ∀ j ∈ U, Ag P N E ops F2 H2 j) (h : AM P N E ops n (tailsOf (i, some U) ps) F2 H2 Q) (hg : gok ops o F = true := by exact rfl) : AM1 P N E ops o i (some U) n ps F H Q := fun ho hh S ρ a w hR => by
 refine wpM_e hh rfl ho fun K' hK => ?_
 rw [if_pos (wanted_of (P := P) hg hR)]
 refine effO_mono (fun a' w' hh => ?_) (hr S ρ a w hR)
 obtain ⟨S', ρ', F', H', ⟨h1, h2⟩, hR'⟩ := hh
 subst h1; subst h2
 exact hK _ _ (fun j hj => hU j hj S' ρ' a' w' hR') (h S' ρ' a' w' hR')
theorem WX3 {G A : Prop} (h : G) (hs : Hid G → A := by (intro h; refine dkm rfl rfl rfl ?_; (first | ((with_reducible refine kd 20 ?_); refine M5 rfl ?_) | ((with_reducible refine kd 4 ?_); first | refine M5 rfl ?_ | refine am_rdg YL ?_ | refine am_rdg YK ?_) | ((with_reducible refine kd 1 ?_); first | refine am_rdg Zeql ?_ | refine am_rdg Zadd ?_ | refine am_rdg Zlss ?_ | refine am_rdg Zneq ?_ | refine am_rdg Zsub ?_ | refine am_rdg Zmul ?_ | refine am_rdg Zgtr ?_ | refine am_rdg Zleq ?_ | refine am_rdg Zgeq ?_ | refine am_rdg Zquo ?_ | refine am_rdg Zqut ?_ | refine am_rdg Zquw ?_ | refine am_rdg Zrem ?_ | refine am_rdg Zrew ?_ | refine am_rdg Ynil ?_ | refine am_rdg Yeqb ?_ | refine am_rdg Yneb ?_ | refine am_rdg Yeqs ?_ | refine am_rdg Ynes ?_ | refine am_rdg Yads ?_) | ((with_reducible refine kd 2 ?_); first | refine am_efg Ysto (by (repeat first | exact ag_none | (refine ag_cons (by first | exact agT rfl rfl rfl rfl | exact agX (hr := YL) | exact agX (hr := YK) | exact agX (hr := YIj) | exact agX (hr := YJ) | exact agX (hr := YJo) | exact agX (hr := YI) | exact agX (hr := Ybld) | exact agAdd | exact agSub | exact agMul | exact agX (hr := Ysli) | exact agX (hr := Yslr) | exact agX (hr := Zquo) | exact agX (hr := Zqut) | exact agX (hr := Zrem) | exact agX (hr := Yidx) | exact agX (hr := Ylns) | exact agX (hr := Yeqs) | exact agX (hr := Ynes) | exact agX (hr := Zlss) | exact agX (hr := Zeql) | exact agX (hr := Zneq) | exact agX (hr := rd_min2 (ty := 0) rfl rfl rfl) | exact agX (hr := rd_max2 rfl rfl rfl)) ?_))) ?_ | refine am_efg Ystr (by (repeat first | exact ag_none | (refine ag_cons (by first | exact agT rfl rfl rfl rfl | exact agX (hr := YL) | exact agX (hr := YK) | exact agX (hr := YIj) | exact agX (hr := YJ) | exact agX (hr := YJo) | exact agX (hr := YI) | exact agX (hr := Ybld) | exact agAdd | exact agSub | exact agMul | exact agX (hr := Ysli) | exact agX (hr := Yslr) | exact agX (hr := Zquo) | exact agX (hr := Zqut) | exact agX (hr := Zrem) | exact agX (hr := Yidx) | exact agX (hr := Ylns) | exact agX (hr := Yeqs) | exact agX (hr := Ynes) | exact agX (hr := Zlss) | exact agX (hr := Zeql) | exact agX (hr := Zneq) | exact agX (hr := rd_min2 (ty := 0) rfl rfl rfl) | exact agX (hr := rd_max2 rfl rfl rfl)) ?_))) ?_) | ((with_reducible refine kd 3 ?_); first | refine am_rdg YI ?_ | refine am_rdg YJ ?_ | refine am_rdg YJo ?_) | ((with_reducible refine kd 14 ?_); first | refine M5 rfl ?_ | refine am_rdg Ylns ?_) | ((with_reducible refine kd 15 ?_); refine am_rdg Yidx ?_) | ((with_reducible refine kd 5 ?_); first | refine am_rdg Ysli ?_ | refine am_rdg Yslr ?_) | ((with_reducible refine kd 6 ?_); refine am_efg Ybsl (by (repeat first | exact ag_none | (refine ag_cons (by first | exact agT rfl rfl rfl rfl | exact agX (hr := YL) | exact agX (hr := YK) | exact agX (hr := YIj) | exact agX (hr := YJ) | exact agX (hr := YJo) | exact agX (hr := YI) | exact agX (hr := Ybld) | exact agAdd | exact agSub | exact agMul | exact agX (hr := Ysli) | exact agX (hr := Yslr) | exact agX (hr := Zquo) | exact agX (hr := Zqut) | exact agX (hr := Zrem) | exact agX (hr := Yidx) | exact agX (hr := Ylns) | exact agX (hr := Yeqs) | exact agX (hr := Ynes) | exact agX (hr := Zlss) | exact agX (hr := Zeql) | exact agX (hr := Zneq) | exact agX (hr := rd_min2 (ty := 0) rfl rfl rfl) | exact agX (hr := rd_max2 rfl rfl rfl)) ?_))) ?_) | ((with_reducible refine kd 7 ?_); refine am_efg Yall (by (repeat first | exact ag_none | (refine ag_cons (by first | exact agT rfl rfl rfl rfl | exact agX (hr := YL) | exact agX (hr := YK) | exact agX (hr := YIj) | exact agX (hr := YJ) | exact agX (hr := YJo) | exact agX (hr := YI) | exact agX (hr := Ybld) | exact agAdd | exact agSub | exact agMul | exact agX (hr := Ysli) | exact agX (hr := Yslr) | exact agX (hr := Zquo) | exact agX (hr := Zqut) | exact agX (hr := Zrem) | exact agX (hr := Yidx) | exact agX (hr := Ylns) | exact agX (hr := Yeqs) | exact agX (hr := Ynes) | exact agX (hr := Zlss) | exact agX (hr := Zeql) | exact agX (hr := Zneq) | exact agX (hr := rd_min2 (ty := 0) rfl rfl rfl) | exact agX (hr := rd_max2 rfl rfl rfl)) ?_))) ?_) | ((with_reducible refine kd 8 ?_); refine am_efg Zbox (by (repeat first | exact ag_none | (refine ag_cons (by first | exact agT rfl rfl rfl rfl | exact agX (hr := YL) | exact agX (hr := YK) | exact agX (hr := YIj) | exact agX (hr := YJ) | exact agX (hr := YJo) | exact agX (hr := YI) | exact agX (hr := Ybld) | exact agAdd | exact agSub | exact agMul | exact agX (hr := Ysli) | exact agX (hr := Yslr) | exact agX (hr := Zquo) | exact agX (hr := Zqut) | exact agX (hr := Zrem) | exact agX (hr := Yidx) | exact agX (hr := Ylns) | exact agX (hr := Yeqs) | exact agX (hr := Ynes) | exact agX (hr := Zlss) | exact agX (hr := Zeql) | exact agX (hr := Zneq) | exact agX (hr := rd_min2 (ty := 0) rfl rfl rfl) | exact agX (hr := rd_max2 rfl rfl rfl)) ?_))) ?_) | ((with_reducible refine kd 9 ?_); refine am_rdg Ybld ?_) | ((with_reducible refine kd 10 ?_); refine am_rdg Yneg ?_) | ((with_reducible refine kd 11 ?_); refine am_rdg Ymkf ?_) | ((with_reducible refine kd 12 ?_); refine am_efg Ymak (by (repeat first | exact ag_none | (refine ag_cons (by first | exact agT rfl rfl rfl rfl | exact agX (hr := YL) | exact agX (hr := YK) | exact agX (hr := YIj) | exact agX (hr := YJ) | exact agX (hr := YJo) | exact agX (hr := YI) | exact agX (hr := Ybld) | exact agAdd | exact agSub | exact agMul | exact agX (hr := Ysli) | exact agX (hr := Yslr) | exact agX (hr := Zquo) | exact agX (hr := Zqut) | exact agX (hr := Zrem) | exact agX (hr := Yidx) | exact agX (hr := Ylns) | exact agX (hr := Yeqs) | exact agX (hr := Ynes) | exact agX (hr := Zlss) | exact agX (hr := Zeql) | exact agX (hr := Zneq) | exact agX (hr := rd_min2 (ty := 0) rfl rfl rfl) | exact agX (hr := rd_max2 rfl rfl rfl)) ?_))) ?_) | ((with_reducible refine kd 13 ?_); first | refine am_rdg (rd_min2 (ty := 0) rfl rfl rfl) ?_ | refine am_rdg (rd_max2 rfl rfl rfl) ?_ | refine am_rdg (rd_min3 rfl rfl rfl rfl) ?_ | refine am_rdg (rd_max3 rfl rfl rfl rfl) ?_ | refine am_rdg (rd_min4 rfl rfl rfl rfl rfl) ?_)); exact h.out)) : A := hs ⟨h⟩
theorem WM {G A : Prop} (h : G) (hs : Hid G → A := by (intro h; (repeat refine WX3 ?_); exact h.out)) : A := hs ⟨h⟩
theorem WN {G A : Prop} (h : G) (hs : Hid G → A := by (intro h; (repeat refine WX3 ?_); refine am_nil ?_; (repeat with_reducible first | apply S1 | apply S2 | apply S3 | apply S4 | apply S5 | apply S6 | apply S7 | apply S8 | refine S0 rfl ?_ | apply SA | apply SB | apply SC); exact h.out)) : A := hs ⟨h⟩
theorem AGX {U : List Nat} (h : ∀ j ∈ U, Ag Tryz.prog N E ops F H j := by (repeat first | exact ag_none | (refine ag_cons (by first | exact agT rfl rfl rfl rfl | exact agX (hr := YL) | exact agX (hr := YK) | exact agX (hr := YIj) | exact agX (hr := YJ) | exact agX (hr := YJo) | exact agX (hr := YI) | exact agX (hr := Ybld) | exact agAdd | exact agSub | exact agMul | exact agX (hr := Ysli) | exact agX (hr := Yslr) | exact agX (hr := Zquo) | exact agX (hr := Zqut) | exact agX (hr := Zrem) | exact agX (hr := Yidx) | exact agX (hr := Ylns) | exact agX (hr := Yeqs) | exact agX (hr := Ynes) | exact agX (hr := Zlss) | exact agX (hr := Zeql) | exact agX (hr := Zneq) | exact agX (hr := rd_min2 (ty := 0) rfl rfl rfl) | exact agX (hr := rd_max2 rfl rfl rfl)) ?_))) : ∀ j ∈ U, Ag Tryz.prog N E ops F H j := h
end
end Go.Proofs.YtfilfijammemfaaGreatDoor

/- The logic over values: an array that was lent may give way to one that is new. -/
namespace Go.Proofs.YtfilfijammemfaaGreatDoor
open Go Go.RowKit
section
variable {N : Nat} {E : Env} {F : Fm} {H : List OB} {K : Fm → List OB → Prop}
theorem wk_ghost {i : Nat} {x : AV} (hx : F.lookup i = some x) (h : ∀ ρ : List (Option Nat), K ((i, .c (.s (x.den ρ H))) :: F) (H ++ [.eqv x (x.den ρ H)])) : Wk N E F H K := fun S ρ a w hR => by
 have he := Ex.snoc (ρ := ρ) (H := H) hR.hp.len none (.eqv x (x.den ρ H))
 obtain ⟨h1, h2⟩ := hR.fr i x hx
 have hR2 : R N E S (ρ ++ [none]) F (H ++ [.eqv x (x.den ρ H)]) a w := by
  have hin : ∀ i k B, inP (H ++ [.eqv x (x.den ρ H)]) i k B → inP H i k B := fun i k B => inP_snoc (fun k B h => by obtain ⟨l, h⟩ := hasP_pool h; cases h)
  refine hR.ex he Mo.refl ⟨by simp [hR.hp.len], fun j j' B hj hj' => ?_, fun j B hj => ?_, fun j B hj => ?_, hR.hp.sS, fun j o ho => ?_, hR.hp.pl.mono hin (fun _ h => .inl h) (fun j B hj => ?_) (Nat.le_refl _)⟩ hR.st (fun j B hj => ?_) hR.nS (fun i k B h => hR.pw i k B (hin i k B h))
  rotate_left 4
  ·rw [atB_snoc] at hj
   split at hj
   ·cases hj
   ·exact .inl ⟨j, hj⟩
  rotate_right 4
  ·rw [atB_snoc] at hj hj'
   split at hj
   ·cases hj
   ·split at hj'
    ·cases hj'
    ·exact hR.hp.nd j j' B hj hj'
  ·rw [atB_snoc] at hj
   split at hj
   ·cases hj
   ·exact hR.hp.ap j B hj
  ·rw [atB_snoc] at hj
   split at hj
   ·cases hj
   ·exact hR.hp.lt j B hj
  ·rcases Nat.lt_or_ge j H.length with hlt | hge
   ·rw [List.getElem?_append_left hlt] at ho
    rw [atB_snoc, if_neg (by rw [hR.hp.len]; omega)]
    exact (hR.hp.blk j o ho).ex he Mo.refl (fun _ _ => rfl) (fun _ _ _ => rfl)
   ·rw [List.getElem?_append_right hge] at ho
    cases hq : j - H.length with
    | zero =>
     rw [hq] at ho
     simp only [List.getElem?_cons_zero, Option.some.injEq] at ho
     subst ho
     exact ⟨h2.den_ex he, h2.ex he Mo.refl⟩
    | succ n => rw [hq] at ho; simp at ho
  ·rw [atB_snoc] at hj
   split at hj
   ·cases hj
   ·exact hR.nw j B hj
 refine ⟨S, ρ ++ [none], _, _, h ρ, hR2.df, hR2.sz, fun j y hj => ?_, hR2.hp, hR2.st, hR2.nw, hR2.nS, hR2.pw, hR2.ln, hR2.pn⟩
 rw [List.lookup_cons] at hj
 split at hj
 ·rename_i he2
  obtain rfl : j = i := by simpa using he2
  injection hj with hj
  subst hj
  exact ⟨h1, .c (.s _)⟩
 ·exact hR2.fr j y hj
theorem wk_thaw {i b : Nat} {x : AV} {v : Value} (hx : F.lookup i = some (.c (.s v))) (hb : H[b]? = some (.eqv x v)) (h : K ((i, x) :: F) H) : Wk N E F H K := fun S ρ a w hR => by
 obtain ⟨h1, h2⟩ := hR.hp.blk b _ hb
 refine ⟨S, ρ, _, _, h, hR.df, hR.sz, fun j y hj => ?_, hR.hp, hR.st, hR.nw, hR.nS, hR.pw, hR.ln, hR.pn⟩
 rw [List.lookup_cons] at hj
 split at hj
 ·rename_i he2
  obtain rfl : j = i := by simpa using he2
  injection hj with hj
  subst hj
  exact ⟨by rw [h1]; exact (hR.fr j _ hx).1, h2⟩
 ·exact hR.fr j y hj
end
section
variable {P : Program} {N : Nat} {E : Env} {F : Fm} {H : List OB} {K : Fm → List OB → Prop} {Q : Exit → Fm → List OB → Prop} {ops : Array Oper}
theorem at_wk {L : List (Nat × Option (List Nat))} (h : Wk N E F H K) (hk : ∀ F' H', K F' H' → AT P N E ops L F' H' Q) : AT P N E ops L F H Q := fun S ρ a w hR => by
 obtain ⟨S', ρ', F', H', h1, h2⟩ := h S ρ a w hR
 exact hk F' H' h1 S' ρ' a w h2
theorem am_wk {n : Nat} {ps : List Plan} (h : Wk N E F H K) (hk : ∀ F' H', K F' H' → AM P N E ops n ps F' H' Q) : AM P N E ops n ps F H Q := fun S ρ a w hR => by
 obtain ⟨S', ρ', F', H', h1, h2⟩ := h S ρ a w hR
 exact hk F' H' h1 S' ρ' a w h2
theorem aw_ghost {i b k n cap : Nat} {c : Code} (hx : F.lookup i = some (.o b k n cap)) (h : ∀ A : Option Addr, AW P N E c ((i, .c (.s (.slice A n cap))) :: F) (H ++ [.eqv (.o b k n cap) (.slice A n cap)]) Q) : AW P N E c F H Q :=
 aw_wk (wk_ghost (K := fun F' H' => ∃ A : Option Addr, F' = (i, .c (.s (.slice A n cap))) :: F ∧ H' = H ++ [.eqv (.o b k n cap) (.slice A n cap)]) hx fun ρ => ⟨_, rfl, rfl⟩) fun F' H' ⟨A, h1, h2⟩ => by subst h1; subst h2; exact h A
theorem aw_thaw {i b : Nat} {x : AV} {v : Value} {c : Code} (hx : F.lookup i = some (.c (.s v))) (hb : H[b]? = some (.eqv x v)) (h : AW P N E c ((i, x) :: F) H Q) : AW P N E c F H Q :=
 aw_wk (wk_thaw (K := fun F' H' => F' = (i, x) :: F ∧ H' = H) hx hb ⟨rfl, rfl⟩) fun F' H' ⟨h1, h2⟩ => by subst h1; subst h2; exact h
theorem al_ghost {i b k n cap : Nat} {l : List Oper} (hx : F.lookup i = some (.o b k n cap)) (h : ∀ A : Option Addr, AL P N E ops l ((i, .c (.s (.slice A n cap))) :: F) (H ++ [.eqv (.o b k n cap) (.slice A n cap)]) Q) : AL P N E ops l F H Q :=
 al_wk (wk_ghost (K := fun F' H' => ∃ A : Option Addr, F' = (i, .c (.s (.slice A n cap))) :: F ∧ H' = H ++ [.eqv (.o b k n cap) (.slice A n cap)]) hx fun ρ => ⟨_, rfl, rfl⟩) fun F' H' ⟨A, h1, h2⟩ => by subst h1; subst h2; exact h A
theorem al_thaw {i b : Nat} {x : AV} {v : Value} {l : List Oper} (hx : F.lookup i = some (.c (.s v))) (hb : H[b]? = some (.eqv x v)) (h : AL P N E ops l ((i, x) :: F) H Q) : AL P N E ops l F H Q :=
 al_wk (wk_thaw (K := fun F' H' => F' = (i, x) :: F ∧ H' = H) hx hb ⟨rfl, rfl⟩) fun F' H' ⟨h1, h2⟩ => by subst h1; subst h2; exact h
theorem at_ghost {i b k n cap : Nat} {L : List (Nat × Option (List Nat))} (hx : F.lookup i = some (.o b k n cap)) (h : ∀ A : Option Addr, AT P N E ops L ((i, .c (.s (.slice A n cap))) :: F) (H ++ [.eqv (.o b k n cap) (.slice A n cap)]) Q) : AT P N E ops L F H Q :=
 at_wk (wk_ghost (K := fun F' H' => ∃ A : Option Addr, F' = (i, .c (.s (.slice A n cap))) :: F ∧ H' = H ++ [.eqv (.o b k n cap) (.slice A n cap)]) hx fun ρ => ⟨_, rfl, rfl⟩) fun F' H' ⟨A, h1, h2⟩ => by subst h1; subst h2; exact h A
theorem at_thaw {i b : Nat} {x : AV} {v : Value} {L : List (Nat × Option (List Nat))} (hx : F.lookup i = some (.c (.s v))) (hb : H[b]? = some (.eqv x v)) (h : AT P N E ops L ((i, x) :: F) H Q) : AT P N E ops L F H Q :=
 at_wk (wk_thaw (K := fun F' H' => F' = (i, x) :: F ∧ H' = H) hx hb ⟨rfl, rfl⟩) fun F' H' ⟨h1, h2⟩ => by subst h1; subst h2; exact h
theorem am_ghost {i b k n cap : Nat} {n0 : Nat} {ps : List Plan} (hx : F.lookup i = some (.o b k n cap)) (h : ∀ A : Option Addr, AM P N E ops n0 ps ((i, .c (.s (.slice A n cap))) :: F) (H ++ [.eqv (.o b k n cap) (.slice A n cap)]) Q) : AM P N E ops n0 ps F H Q :=
 am_wk (wk_ghost (K := fun F' H' => ∃ A : Option Addr, F' = (i, .c (.s (.slice A n cap))) :: F ∧ H' = H ++ [.eqv (.o b k n cap) (.slice A n cap)]) hx fun ρ => ⟨_, rfl, rfl⟩) fun F' H' ⟨A, h1, h2⟩ => by subst h1; subst h2; exact h A
theorem am_thaw {i b : Nat} {x : AV} {v : Value} {n0 : Nat} {ps : List Plan} (hx : F.lookup i = some (.c (.s v))) (hb : H[b]? = some (.eqv x v)) (h : AM P N E ops n0 ps ((i, x) :: F) H Q) : AM P N E ops n0 ps F H Q :=
 am_wk (wk_thaw (K := fun F' H' => F' = (i, x) :: F ∧ H' = H) hx hb ⟨rfl, rfl⟩) fun F' H' ⟨h1, h2⟩ => by subst h1; subst h2; exact h
end
theorem ZCG {p : Prop} (h : p := by intro _g; (repeat first | exact K0 | apply K1 rfl | apply K2 rfl rfl | apply K2 rfl (by first | assumption | (rw [Nat.zero_add]; assumption)) | apply K2 rfl (by simp) | apply CvH.eqv rfl | apply K3 | apply CvH.oth rfl (.map rfl) | apply CvH.oth rfl (.pool rfl) | apply CvH.oth rfl (.itr rfl rfl) | apply CvH.oth rfl (.sit rfl) | apply CvH.oth rfl (.bts rfl) | apply CvH.oth rfl .dead | refine CvH.oth rfl (.boxt ?_) ?_ | exact CvAL.nil | refine CvAL.cons ?_ ?_ | exact CvA.c rfl | exact CvA.p rfl | exact CvA.o rfl rfl | exact CvA.nil rfl | exact L0 | apply L1 | exact V1 rfl | exact V2 rfl | exact V3 rfl rfl | exact V4 | exact Cvt.mp rfl | exact V5 rfl | exact V3 rfl (by first | (simp; omega) | simp) | exact V1 (by first | (simp; omega) | simp) | exact V6 rfl rfl (by first | rfl | simp) (by simp) rfl | apply V7 | apply V8 | exact V9 (C0 (by assumption)) | apply V9); fail_if_success focus skip) : p := h
end Go.Proofs.YtfilfijammemfaaGreatDoor

/- Guarded effects of drawn regions. -/
namespace Go.Proofs.YtfilfijammemfaaGreatDoor
open Go Go.RowKit
section
variable {P : Program} {N : Nat} {E : Env} {F : Fm} {H : List OB} {o : Oper} {Q : Exit → Fm → List OB → Prop} {ops : Array Oper} {i : Nat} {L : List (Nat × Option (List Nat))}
end
end Go.Proofs.YtfilfijammemfaaGreatDoor

/- Strings in the logic over values: bytes as a slice of the call's own, and back; functions without a body. -/
namespace Go.Proofs.YtfilfijammemfaaGreatDoor
open Go Go.RowKit
section
variable {P : Program} {N : Nat} {E : Env} {F : Fm} {H : List OB} {o : Oper} {S : Nat → Prop} {ρ : List (Option Nat)} {a : Act} {w : World} {t : TypeId} {x y : Operand}
theorem rd_ext {f : FuncId} {fn : Func} {args : Array Operand} {tys : Array TypeId} {vs : List AV} {us : List Value} {r : Value} {e : Array Value → Sem Value} (ho : o.op = .call { callee := .value (.func f), args := args, argTypes := tys }) (hargs : evL F args.toList = some vs) (hus : ∀ ρ H, vs.map (AV.den ρ H) = us)
    (hf : P.funcs[f]? = some fn) (hname : (fn.name == "runtime.NumGoroutine") = false) (hb : fn.body.isNone = true) (hn : Extern.findNext fn = none) (he : Extern.find fn = some e) (hr : ∀ w, (e us.toArray).run P w = .ok r w) : Rd P N E o F H (.c (.s r)) := fun S ρ a w hR => by
 obtain ⟨h1, _⟩ := evL_spec hR hargs
 rw [hus] at h1
 have h2 : args.map a.eval = us.toArray := by
  apply Array.ext'
  simpa using h1
 refine ⟨?_, .c (.s _)⟩
 have h3 : a.eval (.func f) = .func (.func f) #[] #[] := rfl
 simp [execOp, ho, resolve, h2, h3, Deferred.ofValue, invoke, run_callFunc_extern hf hname hb hn he, hr, AV.den, CV.den]
def idxB (c : UInt8) : List UInt8 → Nat → Int
 | [], _ => -1
 | b :: l, i => if b = c then i else idxB c l (i + 1)
theorem find_idxB {l : List UInt8} {c : UInt8} : ∀ (n i : Nat), i + n = l.length → (match (List.range' i n).find? (fun i => (bst l)[i]! == c) with | some i => (i : Int) | none => -1) = idxB c (l.drop i) i
 | 0, i, h => by rw [List.drop_eq_nil_of_le (by omega)]; rfl
 | n + 1, i, h => by
  have hi : i < l.length := by omega
  rw [List.drop_eq_getElem_cons hi, List.range'_succ, List.find?_cons]
  have hg : (bst l)[i]! = l[i] := by
   have h2 : i < (bst l).size := by rw [bst_size]; exact hi
   rw [getElem!_pos (bst l) i h2]
   rfl
  rw [hg, idxB]
  by_cases hc : l[i] = c
  ·rw [if_pos hc, hc]; simp
  ·rw [if_neg hc, show (l[i] == c) = false by simpa using hc]
   exact find_idxB n (i + 1) (by omega)
theorem firstIdx_eq (l : List UInt8) (c : UInt8) : firstIdx (bst l) c = idxB c l 0 := by
 have := find_idxB (l := l) (c := c) l.length 0 (by omega)
 rw [List.drop_zero] at this
 rw [← this]
 unfold firstIdx
 rw [bst_size, List.range_eq_range']
 cases (List.range' 0 l.length).find? fun i => (bst l)[i]! == c <;> rfl
theorem idxB_neg {c : UInt8} : ∀ {l : List UInt8} {i : Nat}, (0 ≤ idxB c l i ↔ c ∈ l)
 | [], i => by simp [idxB]
 | b :: l, i => by
  unfold idxB
  split
  ·rename_i h; simp [h]
  ·rename_i h; rw [idxB_neg]; simp [Ne.symm h]
end
end Go.Proofs.YtfilfijammemfaaGreatDoor

/- Grids, by value: new ones, what is covered, covering. -/
-- NEWM
namespace Go.Proofs.YtfilfijammemfaaGreatDoor
open Go Go.RowKit
set_option maxRecDepth 100000
abbrev oR (l : List Bool) : List (List CV) := l.map fun b => [B b]
abbrev gRow (g : Grd) (v : Value) : List CV := [I g.st, I g.x, I g.y, I g.w, I g.h, .r v (oR g.on)]
abbrev gV (pv v : Value) (g : Grd) : AV := .c (.p pv (gRow g v))
abbrev gB (st x y : Int) (w h b n : Nat) : OB := .box [.c (I st), .c (I x), .c (I y), .c (I w), .c (I h), .o b 0 n n]
abbrev gArr (n : Nat) (on : List Bool) : OB := .arr 4 1 n (oR on)
theorem cvg {g : AV → Value} {m : List (Option Nat)} {H : List OB} {fz : Bool} {st x y : Int} {w h b b' n : Nat} (hb : m[b']? = some (some b)) : CvL g m H fz [.c (I st), .c (I x), .c (I y), .c (I w), .c (I h), .o b 0 n n] [.c (I st), .c (I x), .c (I y), .c (I w), .c (I h), .o b' 0 n n] :=
 .cons (.c rfl) (.cons (.c rfl) (.cons (.c rfl) (.cons (.c rfl) (.cons (.c rfl) (.cons (.o hb rfl) .nil)))))
theorem u8_eq (b c : UInt8) : decide ((b.toNat : Int) = (c.toNat : Int)) = (b == c) := by
 rw [Bool.eq_iff_iff, decide_eq_true_iff, beq_iff_eq]
 constructor
 ·intro h; exact UInt8.toNat.inj (by omega)
 ·intro h; rw [h]
theorem u8_35 (b : UInt8) : decide ((b.toNat : Int) = 35) = (b == 35) := u8_eq b 35
structure GOk (g : Grd) : Prop where
 len : g.on.length = g.w * g.h
 w : g.w ≤ 1000
 h : g.h ≤ 1000
 x : -10000000 ≤ g.x ∧ g.x ≤ 10000000
 y : -10000000 ≤ g.y ∧ g.y ≤ 10000000
theorem GOk.n {g : Grd} (h : GOk g) : g.on.length ≤ 1000000 := by
 rw [h.len]
 exact Nat.le_trans (Nat.mul_le_mul h.w h.h) (by decide)
theorem oR_rep (n : Nat) : oR (List.replicate n false) = List.replicate n [B false] := by simp [oR]
theorem aret_p {fn : Func} {nl q b k j b' : Nat} {F : Fm} {H : List OB} {Qr : AV → List OB → Prop} (m : List (Option Nat)) (H' : (AV → Value) → List OB) (hr : fn.results = #[.tmp q]) (h : F.lookup q = some (.p b k j)) (hb : m[b']? = some (some b)) (hm : (m.filterMap id).Nodup) (hl : ∀ i, i < nl → m[i]? = some (some i)) (hH : ∀ g, CvH g m H true m (H' g)) (hq : ∀ g, Qr (.p b' k j) (H' g)) : ARet Tryz.prog fn nl Qr .ret F H :=
 aret_of m (fun _ => .p b' k j) H' (by rw [hr]; exact .tmp h .nil) hm hl (fun _ => .p hb) hH hq
theorem aret_fp {fn : Func} {nl q b : Nat} {F : Fm} {H : List OB} {Qr : AV → List OB → Prop} {l : List AV} (m : List (Option Nat)) (row : (AV → Value) → List CV) (H' : List OB) (hr : fn.results = #[.tmp q]) (h : F.lookup q = some (.p b 0 0)) (hH0 : H[b]? = some (.box l)) (hmb : m.contains (some b) = false) (hc : ∀ g, CvL g m H true l ((row g).map .c)) (hm : (m.filterMap id).Nodup) (hl : ∀ i, i < nl → m[i]? = some (some i)) (hH : ∀ g, CvH g m H true m H') (hq : ∀ (v : Value) g, Qr (.c (.p v (row g))) H') : ARet Tryz.prog fn nl Qr .ret F H :=
 aret_of (us := [.p b 0 0]) m (fun g => .c (.p (g (.p b 0 0)) (row g))) (fun _ => H') (by rw [hr]; exact .tmp h .nil) hm hl (fun g => .frzp rfl hH0 (by have := (hc g).both.1; simpa using this) (fun i x u hx hu => (hc g).both.2 i x (.c u) hx (by rw [List.getElem?_map, hu]; rfl)) hmb) hH (fun g => hq _ g)
theorem newgrid_v (st x y : Int) (w h : Nat) (hw : w ≤ 1000) (hh : h ≤ 1000) : ACalls Tryz.prog 77 [.c (I st), .c (I x), .c (I y), .c (I w), .c (I h)] [] fun u H => u = .p 0 0 0 ∧ H = [gB st x y w h 1 (w * h), gArr (w * h) (List.replicate (w * h) false)] := by
 have hm : w * h ≤ 1000000 := Nat.le_trans (Nat.mul_le_mul hw hh) (by decide)
 have hmi : (w : Int) * h = (w * h : Nat) := by simp
 have hmb : 0 ≤ (w : Int) * h ∧ (w : Int) * h ≤ 1000000 := by omega
 refine acalls_of (N := 22) Tryz.func77 rfl rfl (by simp) fun E hE => ?_
 refine WA ?_
 refine WA ?_
 exact aret_p [some 1, some 0] (fun _ => [gB st x y w h 1 (w * h), gArr (w * h) (List.replicate (w * h) false)]) rfl rfl rfl (by decide) (ZNK rfl) (fun _ => .box rfl (.cons (.c rfl) (.cons (.c rfl) (.cons (.c rfl) (.cons (.c rfl) (.cons (.c rfl) (.cons (.o rfl rfl) .nil)))))) (.arr rfl (by rw [oR_rep]) .nil)) (fun _ => ⟨rfl, rfl⟩)
theorem at_v (g : Grd) (pv v : Value) (a b : Int) (hg : GOk g) (ha : -100000000 ≤ a ∧ a ≤ 100000000) (hb : -100000000 ≤ b ∧ b ≤ 100000000) : ACalls Tryz.prog 81 [gV pv v g, .c (I a), .c (I b)] [] fun u H => u = .c (B (atG g a b)) ∧ H = [] := by
 obtain ⟨hlen, hw, hh, hx, hy⟩ := hg
 refine acalls_of (N := 57) Tryz.func81 rfl rfl (by simp) fun E hE => ?_
 refine WA ?_
 refine ZZ ?_
 refine aw_regionT [(0, none), (1, none), (2, none), (3, none), (4, none), (5, none), (6, none), (7, none), (8, none), (9, none), (10, none), (11, none), (12, none), (13, none)] hMixed (by kernel_rfl) ?_
 refine WQ ?_
 by_cases c1 : 0 ≤ a - g.x
 ·by_cases c2 : a - g.x < g.w
  ·by_cases c3 : 0 ≤ b - g.y
   ·by_cases c4 : b - g.y < g.h
    ·obtain ⟨i, hi⟩ : ∃ i : Nat, (i : Int) = b - g.y := ⟨(b - g.y).toNat, by omega⟩
     obtain ⟨k, hk⟩ : ∃ k : Nat, (k : Int) = a - g.x := ⟨(a - g.x).toNat, by omega⟩
     have hlt : i * g.w + k < g.on.length := by
      rw [hlen]
      have : i + 1 ≤ g.h := by omega
      have h2 := Nat.mul_le_mul_right g.w this
      rw [Nat.succ_mul, Nat.mul_comm g.h] at h2
      omega
     have hv : atG g a b = g.on[i * g.w + k] := by
      unfold atG
      rw [decide_eq_true c1, decide_eq_true c2, decide_eq_true c3, decide_eq_true c4, show (b - g.y).toNat = i by omega, show (a - g.x).toNat = k by omega, List.getD_eq_getElem?_getD, List.getElem?_eq_getElem hlt]
      rfl
     have hrow : (oR g.on)[i * g.w + k]? = some [B g.on[i * g.w + k]] := by rw [List.getElem?_map, List.getElem?_eq_getElem hlt]; rfl
     have hpe : (b - g.y) * (g.w : Int) = (i * g.w : Nat) := by rw [← hi]; simp
     have hpb : i * g.w ≤ 1000000 := Nat.le_trans (Nat.mul_le_mul (show i ≤ 1000 by omega) hw) (by decide)
     rw [hv]
     refine ZZ ?_
     refine aw_regionT [(0, none), (1, none), (2, none), (3, none), (4, none), (5, none), (6, none), (7, none), (8, none), (9, none), (10, none), (11, none), (12, none), (13, none), (14, none), (15, none), (16, none), (17, none), (18, none), (19, none), (20, none), (21, none), (22, none), (23, none), (24, none), (25, none), (26, none), (27, none), (28, none), (29, none), (30, none), (31, none), (32, none), (33, none), (34, none), (35, none), (36, none), (37, none), (38, none)] hMixed (by kernel_rfl) ?_
     refine WQ ?_
     exact aret_1 [] _ rfl rfl rfl (by decide) (ZNK rfl) (fun _ => .nil) ⟨rfl, rfl⟩
    ·have hv : atG g a b = false := by unfold atG; rw [decide_eq_false c4]; simp
     rw [hv]
     refine ZZ ?_
     refine aw_regionT [(0, none), (1, none), (2, none), (3, none), (4, none), (5, none), (6, none), (7, none), (8, none), (9, none), (10, none), (11, none), (12, none), (13, none), (14, none), (15, none), (16, none), (17, none), (18, none), (19, none), (20, none), (21, none), (22, none), (23, none), (24, none), (25, none), (26, none), (27, none), (28, none), (29, none), (30, none), (31, none), (32, none), (33, none), (34, none), (35, none), (36, none), (37, none), (38, none)] hMixed (by kernel_rfl) ?_
     refine WQ ?_
     exact aret_1 [] _ rfl rfl rfl (by decide) (ZNK rfl) (fun _ => .nil) ⟨rfl, rfl⟩
   ·have hv : atG g a b = false := by unfold atG; rw [decide_eq_false c3]; simp
    rw [hv]
    refine ZZ ?_
    refine aw_regionT [(0, none), (1, none), (2, none), (3, none), (4, none), (5, none), (6, none), (7, none), (8, none), (9, none), (10, none), (11, none), (12, none), (13, none), (14, none), (15, none), (16, none), (17, none), (18, none), (19, none), (20, none), (21, none), (22, none), (23, none), (24, none), (25, none), (26, none), (27, none), (28, none), (29, none), (30, none), (31, none), (32, none), (33, none), (34, none), (35, none), (36, none), (37, none), (38, none)] hMixed (by kernel_rfl) ?_
    refine WQ ?_
    exact aret_1 [] _ rfl rfl rfl (by decide) (ZNK rfl) (fun _ => .nil) ⟨rfl, rfl⟩
  ·have hv : atG g a b = false := by unfold atG; rw [decide_eq_false c2]; simp
   rw [hv]
   refine ZZ ?_
   refine aw_regionT [(0, none), (1, none), (2, none), (3, none), (4, none), (5, none), (6, none), (7, none), (8, none), (9, none), (10, none), (11, none), (12, none), (13, none), (14, none), (15, none), (16, none), (17, none), (18, none), (19, none), (20, none), (21, none), (22, none), (23, none), (24, none), (25, none), (26, none), (27, none), (28, none), (29, none), (30, none), (31, none), (32, none), (33, none), (34, none), (35, none), (36, none), (37, none), (38, none)] hMixed (by kernel_rfl) ?_
   refine WQ ?_
   exact aret_1 [] _ rfl rfl rfl (by decide) (ZNK rfl) (fun _ => .nil) ⟨rfl, rfl⟩
 ·have hv : atG g a b = false := by unfold atG; rw [decide_eq_false c1]; simp
  rw [hv]
  refine ZZ ?_
  refine aw_regionT [(0, none), (1, none), (2, none), (3, none), (4, none), (5, none), (6, none), (7, none), (8, none), (9, none), (10, none), (11, none), (12, none), (13, none), (14, none), (15, none), (16, none), (17, none), (18, none), (19, none), (20, none), (21, none), (22, none), (23, none), (24, none), (25, none), (26, none), (27, none), (28, none), (29, none), (30, none), (31, none), (32, none), (33, none), (34, none), (35, none), (36, none), (37, none), (38, none)] hMixed (by kernel_rfl) ?_
  refine WQ ?_
  exact aret_1 [] _ rfl rfl rfl (by decide) (ZNK rfl) (fun _ => .nil) ⟨rfl, rfl⟩
end Go.Proofs.YtfilfijammemfaaGreatDoor
