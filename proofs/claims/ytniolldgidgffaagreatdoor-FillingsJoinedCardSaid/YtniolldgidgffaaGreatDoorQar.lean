/- Strings in the logic over values: bytes as a slice of the call's own, and back; functions without a body. -/
import Derived.Test.YtniolldgidgffaaGreatDoorQan
import Derived.Test.YtniolldgidgffaaGreatDoorQak
import Derived.Test.YtniolldgidgffaaGreatDoorQao
import Derived.Test.YtniolldgidgffaaGreatDoorQal
import Derived.Test.YtniolldgidgffaaGreatDoorQam
import Derived.Laws.IdiomStrings
import Derived.Laws.BytesString
import Derived.Laws.Externs
set_option linter.unusedSimpArgs false
set_option linter.unusedVariables false
/- A slice literal that is only read from the first; slices of what is only read; several orders, walked in one step. -/
namespace Go.Proofs.YtniolldgidgffaaGreatDoor
open Go Go.RowKit
set_option maxRecDepth 100000
section
variable {P : Program} {N : Nat} {E : Env} {F : Fm} {H : List OB} {o : Oper}
end
section
variable {N : Nat} {E : Env} {F : Fm} {H : List OB} {o : Oper}
theorem Yslr {t e : TypeId} {sz : Nat} {x : Operand} {lo hi : Option Operand} {l h : Nat} {v : Value} {rows : List (List CV)} (ho : o.op = .slice t x lo hi none := by exact rfl) (ht : bE.get t = some (e, sz) := by exact rfl) (hx : ev F x = some (.c (.r v rows)) := by exact rfl) (hlo : (lo = none ∧ l = 0) ∨ ∃ y kd z, lo = some y ∧ ev F y = some (.c (.s (.int kd z))) ∧ z = l := by first | exact .inl ⟨rfl, rfl⟩ | exact .inr ⟨_, _, _, rfl, rfl, by first | rfl | omega⟩)
    (hhi : (hi = none ∧ h = rows.length) ∨ ∃ y kd z, hi = some y ∧ ev F y = some (.c (.s (.int kd z))) ∧ z = h := by first | exact .inl ⟨rfl, rfl⟩ | exact .inr ⟨_, _, _, rfl, rfl, by first | rfl | omega⟩) (hrow : ∀ row ∈ rows, row.length = sz := by assumption) (hlh : l ≤ h := by omega) (hhc : h ≤ rows.length := by omega) : Rd Tryz.prog N E o F H (.c (.r (subV v l h sz) ((rows.take h).drop l))) := rd_slicer ho (KE ht) hx hrow hlo hhi hlh hhc
variable {Q : Exit → Fm → List OB → Prop} {ops : Array Oper}
def AM1 (P : Program) (N : Nat) (E : Env) (ops : Array Oper) (o : Oper) (i : Nat) (U : Option (List Nat)) (n : Nat) (ps : List Plan) (F : Fm) (H : List OB) (Q : Exit → Fm → List OB → Prop) : Prop := ops[i]? = some o → headsOf ps = [(i, U)] → AM P N E ops (n + 1) ps F H Q
theorem dkm {P : Program} {k i n : Nat} {U : Option (List Nat)} {ps : List Plan} (hh : headsOf ps = [(i, U)]) (hi : ops[i]? = some o) (ho : okc ops o F = some k) (h : KD k (AM1 P N E ops o i U n ps F H Q)) : AM P N E ops (n + 1) ps F H Q := (show AM1 P N E ops o i U n ps F H Q from h) hi hh
theorem am_rdg {P : Program} {i n d : Nat} {x : AV} {ps : List Plan} (hr : Rd P N E o F H x) (h : AM P N E ops n (tailsOf (i, none) ps) ((d, x) :: F) H Q) (hg : gok ops o F = true := by exact rfl) (hd : o.dst = some d := by exact rfl) (hN : d < N := by decide) : AM1 P N E ops o i none n ps F H Q := fun ho hh S ρ a w hR => by
 obtain ⟨h1, h2⟩ := hr S ρ a w hR
 refine wpM_r hh rfl ho fun K hK => ?_
 rw [if_pos (wanted_of (P := P) hg hR)]
 unfold Oper.still
 rw [h1]
 refine ⟨rfl, hK _ ?_⟩
 rw [hd]
 exact h S ρ _ w (hR.put hN h2)
theorem am_skip {P : Program} {i n d : Nat} {ps : List Plan} (hg : gd ops o F = some false) (hd : o.dst = some d) (hN : d < N) (h : AM P N E ops n (tailsOf (i, none) ps) ((d, un) :: F) H Q) : AM1 P N E ops o i none n ps F H Q := fun ho hh S ρ a w hR => by
 refine wpM_r hh rfl ho fun K hK => ?_
 have hw : ¬ Region.wanted o (yielded ops a.tmps) = true := by
  obtain ⟨j, b, oj, t, h1, h2, h3, ⟨b', h4, h5⟩ | ⟨h4, h5⟩⟩ := gd_of hg
  ·simp only [Region.wanted, h1, yielded_of hR h2 h3 h4]
   cases b <;> cases b' <;> simp_all
  ·simp [Region.wanted, h1, skipped_of hR h2 h3 h4]
 rw [if_neg hw, hd]
 exact hK _ (h S ρ _ w (hR.put hN (.c (.s _))))
theorem M5 {i n d : Nat} {v : AV} {ps : List Plan} (h : rdT N ops o F H = some (d, v)) (k : AM Tryz.prog N E ops n (tailsOf (i, none) ps) ((d, v) :: F) H Q) : AM1 Tryz.prog N E ops o i none n ps F H Q := by
 obtain ⟨h1, h2, ⟨rfl, h3⟩ | ⟨h3, h4⟩⟩ := rdT_of h
 ·exact am_skip h3 h1 h2 k
 ·exact am_rdg (rdV_of h4) k h3 h1 h2
theorem am_efg {P : Program} {F2 : Fm} {H2 : List OB} {i n : Nat} {U : List Nat} {ps : List Plan} (hr : Ef P N E o F H fun F' H' => F' = F2 ∧ H' = H2) (hU : ∀ j ∈ U, Ag P N E ops F2 H2 j) (h : AM P N E ops n (tailsOf (i, some U) ps) F2 H2 Q) (hg : gok ops o F = true := by exact rfl) : AM1 P N E ops o i (some U) n ps F H Q := fun ho hh S ρ a w hR => by
 refine wpM_e hh rfl ho fun K' hK => ?_
 rw [if_pos (wanted_of (P := P) hg hR)]
 refine effO_mono (fun a' w' hh => ?_) (hr S ρ a w hR)
 obtain ⟨S', ρ', F', H', ⟨h1, h2⟩, hR'⟩ := hh
 subst h1; subst h2
 exact hK _ _ (fun j hj => hU j hj S' ρ' a' w' hR') (h S' ρ' a' w' hR')
theorem WX3 {G A : Prop} (h : G) (hs : Hid G → A := by (intro h; refine dkm rfl rfl rfl ?_; (first | ((with_reducible refine kd 20 ?_); refine M5 rfl ?_) | ((with_reducible refine kd 4 ?_); first | refine M5 rfl ?_ | refine am_rdg YL ?_ | refine am_rdg YK ?_) | ((with_reducible refine kd 1 ?_); first | refine am_rdg Zeql ?_ | refine am_rdg Zadd ?_ | refine am_rdg Zlss ?_ | refine am_rdg Zneq ?_ | refine am_rdg Zsub ?_ | refine am_rdg Zmul ?_ | refine am_rdg Zgtr ?_ | refine am_rdg Zleq ?_ | refine am_rdg Zgeq ?_ | refine am_rdg Zquo ?_ | refine am_rdg Zqut ?_ | refine am_rdg Zquw ?_ | refine am_rdg Zrem ?_ | refine am_rdg Zrew ?_ | refine am_rdg Ynil ?_ | refine am_rdg Yeqb ?_ | refine am_rdg Yneb ?_ | refine am_rdg Yeqs ?_ | refine am_rdg Ynes ?_ | refine am_rdg Yads ?_) | ((with_reducible refine kd 2 ?_); first | refine am_efg Ysto (by (repeat first | exact ag_none | (refine ag_cons (by first | exact agT rfl rfl rfl rfl | exact agX (hr := YL) | exact agX (hr := YK) | exact agX (hr := YIj) | exact agX (hr := YJ) | exact agX (hr := YJo) | exact agX (hr := YI) | exact agX (hr := Ybld) | exact agAdd | exact agSub | exact agMul | exact agX (hr := Ysli) | exact agX (hr := Yslr) | exact agX (hr := Zquo) | exact agX (hr := Zqut) | exact agX (hr := Zrem) | exact agX (hr := Yidx) | exact agX (hr := Ylns) | exact agX (hr := Yeqs) | exact agX (hr := Ynes) | exact agX (hr := Zlss) | exact agX (hr := Zeql) | exact agX (hr := Zneq) | exact agX (hr := rd_min2 (ty := 0) rfl rfl rfl) | exact agX (hr := rd_max2 rfl rfl rfl)) ?_))) ?_ | refine am_efg Ystr (by (repeat first | exact ag_none | (refine ag_cons (by first | exact agT rfl rfl rfl rfl | exact agX (hr := YL) | exact agX (hr := YK) | exact agX (hr := YIj) | exact agX (hr := YJ) | exact agX (hr := YJo) | exact agX (hr := YI) | exact agX (hr := Ybld) | exact agAdd | exact agSub | exact agMul | exact agX (hr := Ysli) | exact agX (hr := Yslr) | exact agX (hr := Zquo) | exact agX (hr := Zqut) | exact agX (hr := Zrem) | exact agX (hr := Yidx) | exact agX (hr := Ylns) | exact agX (hr := Yeqs) | exact agX (hr := Ynes) | exact agX (hr := Zlss) | exact agX (hr := Zeql) | exact agX (hr := Zneq) | exact agX (hr := rd_min2 (ty := 0) rfl rfl rfl) | exact agX (hr := rd_max2 rfl rfl rfl)) ?_))) ?_) | ((with_reducible refine kd 3 ?_); first | refine am_rdg YI ?_ | refine am_rdg YJ ?_ | refine am_rdg YJo ?_) | ((with_reducible refine kd 14 ?_); first | refine M5 rfl ?_ | refine am_rdg Ylns ?_) | ((with_reducible refine kd 15 ?_); refine am_rdg Yidx ?_) | ((with_reducible refine kd 5 ?_); first | refine am_rdg Ysli ?_ | refine am_rdg Yslr ?_) | ((with_reducible refine kd 6 ?_); refine am_efg Ybsl (by (repeat first | exact ag_none | (refine ag_cons (by first | exact agT rfl rfl rfl rfl | exact agX (hr := YL) | exact agX (hr := YK) | exact agX (hr := YIj) | exact agX (hr := YJ) | exact agX (hr := YJo) | exact agX (hr := YI) | exact agX (hr := Ybld) | exact agAdd | exact agSub | exact agMul | exact agX (hr := Ysli) | exact agX (hr := Yslr) | exact agX (hr := Zquo) | exact agX (hr := Zqut) | exact agX (hr := Zrem) | exact agX (hr := Yidx) | exact agX (hr := Ylns) | exact agX (hr := Yeqs) | exact agX (hr := Ynes) | exact agX (hr := Zlss) | exact agX (hr := Zeql) | exact agX (hr := Zneq) | exact agX (hr := rd_min2 (ty := 0) rfl rfl rfl) | exact agX (hr := rd_max2 rfl rfl rfl)) ?_))) ?_) | ((with_reducible refine kd 7 ?_); refine am_efg Yall (by (repeat first | exact ag_none | (refine ag_cons (by first | exact agT rfl rfl rfl rfl | exact agX (hr := YL) | exact agX (hr := YK) | exact agX (hr := YIj) | exact agX (hr := YJ) | exact agX (hr := YJo) | exact agX (hr := YI) | exact agX (hr := Ybld) | exact agAdd | exact agSub | exact agMul | exact agX (hr := Ysli) | exact agX (hr := Yslr) | exact agX (hr := Zquo) | exact agX (hr := Zqut) | exact agX (hr := Zrem) | exact agX (hr := Yidx) | exact agX (hr := Ylns) | exact agX (hr := Yeqs) | exact agX (hr := Ynes) | exact agX (hr := Zlss) | exact agX (hr := Zeql) | exact agX (hr := Zneq) | exact agX (hr := rd_min2 (ty := 0) rfl rfl rfl) | exact agX (hr := rd_max2 rfl rfl rfl)) ?_))) ?_) | ((with_reducible refine kd 8 ?_); refine am_efg Zbox (by (repeat first | exact ag_none | (refine ag_cons (by first | exact agT rfl rfl rfl rfl | exact agX (hr := YL) | exact agX (hr := YK) | exact agX (hr := YIj) | exact agX (hr := YJ) | exact agX (hr := YJo) | exact agX (hr := YI) | exact agX (hr := Ybld) | exact agAdd | exact agSub | exact agMul | exact agX (hr := Ysli) | exact agX (hr := Yslr) | exact agX (hr := Zquo) | exact agX (hr := Zqut) | exact agX (hr := Zrem) | exact agX (hr := Yidx) | exact agX (hr := Ylns) | exact agX (hr := Yeqs) | exact agX (hr := Ynes) | exact agX (hr := Zlss) | exact agX (hr := Zeql) | exact agX (hr := Zneq) | exact agX (hr := rd_min2 (ty := 0) rfl rfl rfl) | exact agX (hr := rd_max2 rfl rfl rfl)) ?_))) ?_) | ((with_reducible refine kd 9 ?_); refine am_rdg Ybld ?_) | ((with_reducible refine kd 10 ?_); refine am_rdg Yneg ?_) | ((with_reducible refine kd 11 ?_); refine am_rdg Ymkf ?_) | ((with_reducible refine kd 12 ?_); refine am_efg Ymak (by (repeat first | exact ag_none | (refine ag_cons (by first | exact agT rfl rfl rfl rfl | exact agX (hr := YL) | exact agX (hr := YK) | exact agX (hr := YIj) | exact agX (hr := YJ) | exact agX (hr := YJo) | exact agX (hr := YI) | exact agX (hr := Ybld) | exact agAdd | exact agSub | exact agMul | exact agX (hr := Ysli) | exact agX (hr := Yslr) | exact agX (hr := Zquo) | exact agX (hr := Zqut) | exact agX (hr := Zrem) | exact agX (hr := Yidx) | exact agX (hr := Ylns) | exact agX (hr := Yeqs) | exact agX (hr := Ynes) | exact agX (hr := Zlss) | exact agX (hr := Zeql) | exact agX (hr := Zneq) | exact agX (hr := rd_min2 (ty := 0) rfl rfl rfl) | exact agX (hr := rd_max2 rfl rfl rfl)) ?_))) ?_) | ((with_reducible refine kd 13 ?_); first | refine am_rdg (rd_min2 (ty := 0) rfl rfl rfl) ?_ | refine am_rdg (rd_max2 rfl rfl rfl) ?_ | refine am_rdg (rd_min3 rfl rfl rfl rfl) ?_ | refine am_rdg (rd_max3 rfl rfl rfl rfl) ?_ | refine am_rdg (rd_min4 rfl rfl rfl rfl rfl) ?_)); exact h.out)) : A := hs ⟨h⟩
theorem WM {G A : Prop} (h : G) (hs : Hid G → A := by (intro h; (repeat refine WX3 ?_); exact h.out)) : A := hs ⟨h⟩
theorem WN {G A : Prop} (h : G) (hs : Hid G → A := by (intro h; (repeat refine WX3 ?_); refine am_nil ?_; (repeat with_reducible first | apply S1 | apply S2 | apply S3 | apply S4 | apply S5 | apply S6 | apply S7 | apply S8 | refine S0 rfl ?_ | apply SA | apply SB | apply SC); exact h.out)) : A := hs ⟨h⟩
theorem AGX {U : List Nat} (h : ∀ j ∈ U, Ag Tryz.prog N E ops F H j := by (repeat first | exact ag_none | (refine ag_cons (by first | exact agT rfl rfl rfl rfl | exact agX (hr := YL) | exact agX (hr := YK) | exact agX (hr := YIj) | exact agX (hr := YJ) | exact agX (hr := YJo) | exact agX (hr := YI) | exact agX (hr := Ybld) | exact agAdd | exact agSub | exact agMul | exact agX (hr := Ysli) | exact agX (hr := Yslr) | exact agX (hr := Zquo) | exact agX (hr := Zqut) | exact agX (hr := Zrem) | exact agX (hr := Yidx) | exact agX (hr := Ylns) | exact agX (hr := Yeqs) | exact agX (hr := Ynes) | exact agX (hr := Zlss) | exact agX (hr := Zeql) | exact agX (hr := Zneq) | exact agX (hr := rd_min2 (ty := 0) rfl rfl rfl) | exact agX (hr := rd_max2 rfl rfl rfl)) ?_))) : ∀ j ∈ U, Ag Tryz.prog N E ops F H j := h
end
end Go.Proofs.YtniolldgidgffaaGreatDoor

/- The logic over values: an array that was lent may give way to one that is new. -/
namespace Go.Proofs.YtniolldgidgffaaGreatDoor
open Go Go.RowKit
section
variable {N : Nat} {E : Env} {F : Fm} {H : List OB} {K : Fm → List OB → Prop}
theorem wk_ghost {i : Nat} {x : AV} (hx : F.lookup i = some x) (h : ∀ ρ : List (Option Nat), K ((i, .c (.s (x.den ρ H))) :: F) (H ++ [.eqv x (x.den ρ H)])) : Wk N E F H K := fun S ρ a w hR => by
 have he := Ex.snoc (ρ := ρ) (H := H) hR.hp.len none (.eqv x (x.den ρ H))
 obtain ⟨h1, h2⟩ := hR.fr i x hx
 have hR2 : R N E S (ρ ++ [none]) F (H ++ [.eqv x (x.den ρ H)]) a w := by
  refine hR.ex he Mo.refl ⟨by simp [hR.hp.len], fun j j' B hj hj' => ?_, fun j B hj => ?_, fun j B hj => ?_, hR.hp.sS, fun j o ho => ?_⟩ hR.st (fun j B hj => ?_) hR.nS
  ·rw [atB_snoc] at hj hj'
   split at hj
   ·cases hj
   ·split at hj'
    ·cases hj'
    ·exact hR.hp.nd j j' B hj hj'
  ·rw [atB_snoc] at hj
   split at hj
   ·cases hj
   ·exact hR.hp.ap j B hj
  ·rw [atB_snoc] at hj
   split at hj
   ·cases hj
   ·exact hR.hp.lt j B hj
  ·rcases Nat.lt_or_ge j H.length with hlt | hge
   ·rw [List.getElem?_append_left hlt] at ho
    rw [atB_snoc, if_neg (by rw [hR.hp.len]; omega)]
    exact (hR.hp.blk j o ho).ex he Mo.refl (fun _ _ => rfl)
   ·rw [List.getElem?_append_right hge] at ho
    cases hq : j - H.length with
    | zero =>
     rw [hq] at ho
     simp only [List.getElem?_cons_zero, Option.some.injEq] at ho
     subst ho
     exact ⟨h2.den_ex he, h2.ex he Mo.refl⟩
    | succ n => rw [hq] at ho; simp at ho
  ·rw [atB_snoc] at hj
   split at hj
   ·cases hj
   ·exact hR.nw j B hj
 refine ⟨S, ρ ++ [none], _, _, h ρ, hR2.df, hR2.sz, fun j y hj => ?_, hR2.hp, hR2.st, hR2.nw, hR2.nS, hR2.ln, hR2.pn⟩
 rw [List.lookup_cons] at hj
 split at hj
 ·rename_i he2
  obtain rfl : j = i := by simpa using he2
  injection hj with hj
  subst hj
  exact ⟨h1, .c (.s _)⟩
 ·exact hR2.fr j y hj
theorem wk_thaw {i b : Nat} {x : AV} {v : Value} (hx : F.lookup i = some (.c (.s v))) (hb : H[b]? = some (.eqv x v)) (h : K ((i, x) :: F) H) : Wk N E F H K := fun S ρ a w hR => by
 obtain ⟨h1, h2⟩ := hR.hp.blk b _ hb
 refine ⟨S, ρ, _, _, h, hR.df, hR.sz, fun j y hj => ?_, hR.hp, hR.st, hR.nw, hR.nS, hR.ln, hR.pn⟩
 rw [List.lookup_cons] at hj
 split at hj
 ·rename_i he2
  obtain rfl : j = i := by simpa using he2
  injection hj with hj
  subst hj
  exact ⟨by rw [h1]; exact (hR.fr j _ hx).1, h2⟩
 ·exact hR.fr j y hj
end
section
variable {P : Program} {N : Nat} {E : Env} {F : Fm} {H : List OB} {K : Fm → List OB → Prop} {Q : Exit → Fm → List OB → Prop} {ops : Array Oper}
theorem aw_ghost {i b k n cap : Nat} {c : Code} (hx : F.lookup i = some (.o b k n cap)) (h : ∀ A : Option Addr, AW P N E c ((i, .c (.s (.slice A n cap))) :: F) (H ++ [.eqv (.o b k n cap) (.slice A n cap)]) Q) : AW P N E c F H Q :=
 aw_wk (wk_ghost (K := fun F' H' => ∃ A : Option Addr, F' = (i, .c (.s (.slice A n cap))) :: F ∧ H' = H ++ [.eqv (.o b k n cap) (.slice A n cap)]) hx fun ρ => ⟨_, rfl, rfl⟩) fun F' H' ⟨A, h1, h2⟩ => by subst h1; subst h2; exact h A
theorem aw_thaw {i b : Nat} {x : AV} {v : Value} {c : Code} (hx : F.lookup i = some (.c (.s v))) (hb : H[b]? = some (.eqv x v)) (h : AW P N E c ((i, x) :: F) H Q) : AW P N E c F H Q :=
 aw_wk (wk_thaw (K := fun F' H' => F' = (i, x) :: F ∧ H' = H) hx hb ⟨rfl, rfl⟩) fun F' H' ⟨h1, h2⟩ => by subst h1; subst h2; exact h
end
theorem ZCG {p : Prop} (h : p := by intro _g; (repeat first | exact K0 | apply K1 rfl | apply K2 rfl rfl | apply K2 rfl (by first | assumption | (rw [Nat.zero_add]; assumption)) | apply K2 rfl (by simp) | apply CvH.eqv rfl | apply K3 | apply CvH.oth rfl (.map rfl) | apply CvH.oth rfl (.itr rfl rfl) | apply CvH.oth rfl (.sit rfl) | apply CvH.oth rfl (.bts rfl) | apply CvH.oth rfl .dead | refine CvH.oth rfl (.boxt ?_) ?_ | exact CvAL.nil | refine CvAL.cons ?_ ?_ | exact CvA.c rfl | exact CvA.p rfl | exact CvA.o rfl rfl | exact CvA.nil rfl | exact L0 | apply L1 | exact V1 rfl | exact V2 rfl | exact V3 rfl rfl | exact V4 | exact Cvt.mp rfl | exact V5 rfl | exact V3 rfl (by first | (simp; omega) | simp) | exact V1 (by first | (simp; omega) | simp) | exact V6 rfl rfl (by first | rfl | simp) (by simp) rfl | apply V7 | apply V8 | exact V9 (C0 (by assumption)) | apply V9); fail_if_success focus skip) : p := h
end Go.Proofs.YtniolldgidgffaaGreatDoor

/- Guarded effects of drawn regions. -/
namespace Go.Proofs.YtniolldgidgffaaGreatDoor
open Go Go.RowKit
section
variable {P : Program} {N : Nat} {E : Env} {F : Fm} {H : List OB} {o : Oper} {Q : Exit → Fm → List OB → Prop} {ops : Array Oper} {i : Nat} {L : List (Nat × Option (List Nat))}
theorem wanted_no {S : Nat → Prop} {ρ : List (Option Nat)} {a : Act} {w : World} (h : gd ops o F = some false) (hR : R N E S ρ F H a w) : Region.wanted o (yielded ops a.tmps) = false := by
 obtain ⟨j, b, oj, t, h1, h2, h3, ⟨b', h4, h5⟩ | ⟨h4, _⟩⟩ := gd_of h
 ·simp only [Region.wanted, h1, yielded_of hR h2 h3 h4]
  cases b <;> cases b' <;> simp_all
 ·simp [Region.wanted, h1, skipped_of hR h2 h3 h4]
theorem at_efK {U : List Nat} {K : Fm → List OB → Prop} (ho : ops[i]? = some o) (hr : Ef P N E o F H K) (h : ∀ F' H', K F' H' → (∀ j ∈ U, Ag P N E ops F' H' j) ∧ AT P N E ops L F' H' Q) (hg : gok ops o F = true := by exact rfl) : AT P N E ops ((i, some U) :: L) F H Q := fun S ρ a w hR => by
 refine wpT_e ho fun K' hK => ?_
 rw [if_pos (wanted_of (P := P) hg hR)]
 refine effO_mono (fun a' w' hh => ?_) (hr S ρ a w hR)
 obtain ⟨S', ρ', F', H', hk, hR'⟩ := hh
 obtain ⟨h1, h2⟩ := h F' H' hk
 exact hK _ _ (fun j hj => h1 j hj S' ρ' a' w' hR') (h2 S' ρ' a' w' hR')
theorem at_efN {U : List Nat} {d : Nat} (ho : ops[i]? = some o) (hg : gd ops o F = some false) (hd : o.dst = some d) (hN : d < N) (h : (∀ j ∈ U, Ag P N E ops ((d, un) :: F) H j) ∧ AT P N E ops L ((d, un) :: F) H Q) : AT P N E ops ((i, some U) :: L) F H Q := fun S ρ a w hR => by
 refine wpT_e ho fun K' hK => ?_
 rw [if_neg (by rw [wanted_no hg hR]; simp)]
 have hR' : R N E S ρ ((d, un) :: F) H (a.put o.dst undef) w := by rw [hd]; exact hR.put hN (.c (.s _))
 exact hK _ _ (fun j hj => h.1 j hj S ρ _ w hR') (h.2 S ρ _ w hR')
theorem put_sameK {S : Nat → Prop} {ρ : List (Option Nat)} {a : Act} {w : World} {d : Nat} {x : AV} (hR : R N E S ρ F H a w) (hx : F.lookup d = some x) : a.put (some d) (x.den ρ H) = a := by
 have hf := (hR.fr d x hx).1
 obtain ⟨tm, df⟩ := a
 simp only [Act.put, Act.mk.injEq, and_true]
 refine Array.ext_getElem? fun k => ?_
 rw [Array.getElem?_setIfInBounds]
 split
 ·rename_i hk; subst hk; rw [hf]; split
  ·rfl
  ·rename_i hlt; rw [Array.getElem?_eq_none (by simpa using hlt)] at hf; cases hf
 ·rfl
theorem ag_rdK {j d : Nat} {x : AV} (ho : ops[j]? = some o) (hg : gok ops o F = true) (hd : o.dst = some d) (hr : Rd P N E o F H x) (hx : F.lookup d = some x) : Ag P N E ops F H j := fun S ρ a w hR => by
 obtain ⟨h1, h2⟩ := hr S ρ a w hR
 refine again_of ho fun K hK => ?_
 rw [if_pos (wanted_of (P := P) hg hR)]
 unfold Oper.still
 rw [h1]
 refine ⟨rfl, ?_⟩
 rw [hd, put_sameK hR hx]
 exact hK
theorem ag_un {j d : Nat} (ho : ops[j]? = some o) (hg : gd ops o F = some false) (hd : o.dst = some d) (hx : F.lookup d = some un) : Ag P N E ops F H j := fun S ρ a w hR => by
 refine again_of ho fun K hK => ?_
 rw [if_neg (by rw [wanted_no hg hR]; simp)]
 have : a.put (some d) undef = a := put_sameK hR hx
 rw [hd, this]
 exact hK
end
end Go.Proofs.YtniolldgidgffaaGreatDoor

/- Strings in the logic over values: bytes as a slice of the call's own, and back; functions without a body. -/
namespace Go.Proofs.YtniolldgidgffaaGreatDoor
open Go Go.RowKit
section
variable {P : Program} {N : Nat} {E : Env} {F : Fm} {H : List OB} {o : Oper} {S : Nat → Prop} {ρ : List (Option Nat)} {a : Act} {w : World} {t : TypeId} {x y : Operand}
theorem setCell_putf {B i : Nat} {t : TypeId} {cs : Array Value} {v : Value} {fr : Nat × Nat} (h : w.heap[B]? = some (.cells cs t fr)) : w.setCell ⟨B, i, none⟩ v = putBlk w B (.cells (cs.setIfInBounds i v) t fr) := by
 unfold World.setCell putBlk
 congr 1
 refine Array.ext_getElem? fun k => ?_
 rw [Array.getElem?_modify, Array.getElem?_setIfInBounds]
 by_cases hk : B = k
 ·subst hk
  have hlt : B < w.heap.size := by
   rcases Nat.lt_or_ge B w.heap.size with h' | h'
   ·exact h'
   ·rw [Array.getElem?_eq_none h'] at h; cases h
  rw [h]
  simp [hlt]
 ·simp [hk]
theorem ef_cvsb {src dst e : TypeId} {d : Nat} {l : List UInt8} (ho : o.op = .convert src dst x) (hs : P.underlying src = some .string) (ht : P.underlying dst = some (.slice e)) (he : P.underlying e = some (.int .u8)) (hd : o.dst = some d) (hN : d < N) (hx : ev F x = some (.c (T l))) :
    Ef P N E o F H fun F' H' => ∃ v, F' = (d, .c (.s v)) :: F ∧ H' = H ++ [.bts v l] := fun S ρ a w hR => by
 have h1 := (hR.ev hx).1
 simp only [AV.den, CV.den] at h1
 have hrun := run_bytes_of_string (P := P) w src dst e (bst l) hs ht he
 generalize hC : bytesRow (bst l) (grownCap w (bst l).size 0 e) = C at hrun
 generalize hcap : grownCap w (bst l).size 0 e = cap at hrun hC
 unfold effO
 have hex : (execOp a.eval o).run P w = .ok (.value (.slice (some ⟨w.heap.size, 0, none⟩) l.length cap)) (w.drew.alloc (.cells C e (C.size, C.size + 1))) := by
  simp only [execOp, ho, h1]
  rw [Sem.run_bind, hrun, bst_size]
  rfl
 rw [hex]
 have hR2 := (hR.drew).newO (.cells C e (C.size, C.size + 1)) (.bts (.slice (some ⟨w.heap.size, 0, none⟩) l.length cap) l) ⟨w.heap.size, C, e, cap, rfl, rfl, heap_new _ _, fun k b hb => by
  subst hC
  unfold bytesRow
  have hk := (List.getElem?_eq_some_iff.1 hb).1
  rw [Array.getElem?_append_left (by simpa [ByteArray.size] using hk)]
  simp [hb]⟩
 refine ⟨S, ρ ++ [some w.drew.heap.size], (d, .c (.s (.slice (some ⟨w.heap.size, 0, none⟩) l.length cap))) :: F, _, ⟨_, rfl, rfl⟩, ?_⟩
 rw [hd]
 exact hR2.put hN (.c (.s _))
theorem R.bts {v : Value} {l : List UInt8} {b : Nat} (hR : R N E S ρ F H a w) (hH : H[b]? = some (.bts v l)) : ∃ B cs e n, atB ρ b = some B ∧ v = .slice (some ⟨B, 0, none⟩) l.length n ∧ w.heap[B]? = some (.cells cs e (cs.size, cs.size + 1)) ∧ ∀ (k : Nat) (c : UInt8), l[k]? = some c → cs[k]? = some (.int .u8 c.toNat) := hR.hp.blk _ _ hH
theorem rd_lenb {e : TypeId} {sz b : Nat} {v : Value} {l : List UInt8} (ho : o.op = .call { callee := .builtin .len, args := #[x], argTypes := #[t] }) (ht : elemSz P t = some (e, sz)) (hx : ev F x = some (.c (.s v))) (hH : H[b]? = some (.bts v l)) : Rd P N E o F H (.c (.s (.int .i64 l.length))) := fun S ρ a w hR => by
 have h1 := (hR.ev hx).1
 simp only [AV.den, CV.den] at h1
 obtain ⟨B, cs, e', n, hB, hv, _, _⟩ := hR.bts hH
 refine ⟨?_, .c (.s _)⟩
 rw [hv] at h1
 simp [execOp, ho, resolve, invoke, builtin, h1, run_len (elemSz_spec ht).1, AV.den, CV.den]
theorem rd_ixb {e : TypeId} {ix : Operand} {b k : Nat} {kd : IntKind} {z : Int} {v : Value} {l : List UInt8} (ho : o.op = .indexAddr t x ix) (ht : elemSz P t = some (e, 1)) (hx : ev F x = some (.c (.s v))) (hH : H[b]? = some (.bts v l)) (hix : ev F ix = some (.c (.s (.int kd z)))) (hz : z = k) (hk : k < l.length) : Rd P N E o F H (.p b 0 k) := fun S ρ a w hR => by
 have h1 := (hR.ev hx).1
 have h2 := (hR.ev hix).1
 simp only [AV.den, CV.den] at h1 h2
 obtain ⟨B, cs, e', n, hB, hv, _, _⟩ := hR.bts hH
 have hsz : szAt H b = 0 := by unfold szAt; rw [hH]; rfl
 refine ⟨?_, .p (List.getElem?_eq_some_iff.1 hH).1 (by rw [hB]; rfl)⟩
 have := run_indexAt (P := P) (t := t) (B := B) (off := 0) (n := l.length) (c := n) (i := k) (kd := kd) (w := w) ht hk
 rw [hv] at h1
 subst hz
 simp [execOp, ho, h1, h2, this, AV.den, hB, hsz]
theorem ef_stob {b k : Nat} {v : Value} {l : List UInt8} {c : UInt8} (ho : o.op = .store t x y) (hd : o.dst = none) (ht : (P.info? t).map (·.size) = some 1) (hx : ev F x = some (.p b 0 k)) (hH : H[b]? = some (.bts v l)) (hy : ev F y = some (.c (.s (.int .u8 c.toNat)))) (hk : k < l.length) :
    Ef P N E o F H fun F' H' => F' = F ∧ H' = H.set b (.bts v (l.set k c)) := fun S ρ a w hR => by
 have g1 := (hR.ev hx).1
 have g2 := (hR.ev hy).1
 simp only [AV.den, CV.den] at g2
 obtain ⟨B, cs, e, n, hB, hv, hh, hcs⟩ := hR.bts hH
 have hsz : szAt H b = 0 := by unfold szAt; rw [hH]; rfl
 rw [AV.den, hB, hsz] at g1
 have hz : (sizeOf t).run P w = .ok 1 w := by
  unfold sizeOf typeInfo
  cases hi : P.info? t with
  | none => rw [hi] at ht; cases ht
  | some i => rw [hi] at ht; simp at ht; simp [hi, ht]
 have hkc : k < cs.size := by
  have := hcs k _ (List.getElem?_eq_getElem hk)
  rcases Nat.lt_or_ge k cs.size with h | h
  ·exact h
  ·rw [Array.getElem?_eq_none h] at this; cases this
 have hcell : w.cell? ⟨B, k, none⟩ = some (cs[k]'hkc) := by unfold World.cell?; rw [hh]; simp
 have hfr : w.frozen? ⟨B, k, none⟩ = false := by unfold World.frozen?; rw [hh]; simp; omega
 unfold effO
 have hex : (execOp a.eval o).run P w = .ok .skip (putBlk w B (.cells (cs.setIfInBounds k (.int .u8 c.toNat)) e (cs.size, cs.size + 1))) := by
  simp only [execOp, ho, g1, g2, Option.map_some, Instr.storeAt, Instr.sureAddr, storeVar, Sem.run_bind, Sem.run_pure, Result.andThen_ok, hz, Value.cells, List.size_toArray, List.length_singleton, ne_eq, not_true_eq_false, if_false, Nat.zero_mul, Nat.zero_add]
  simp only [storeCells, Sem.run_bind]
  have hadd : (⟨B, k, none⟩ : Addr).add 0 = ⟨B, k, none⟩ := by unfold Addr.add; simp
  rw [hadd, run_store P w _ _ _ rfl, hcell, hfr]
  simp [setCell_putf hh]
 rw [hex]
 refine ⟨S, ρ, _, _, ⟨rfl, rfl⟩, ?_⟩
 rw [hd]
 refine R.set (ob := .bts v l) hR hH hB rfl rfl (fun _ => rfl) (putBlk_size _ _) ⟨B, cs.setIfInBounds k (.int .u8 c.toNat), e, n, rfl, by rw [List.length_set]; exact hv, by rw [putBlk_at hh]; simp, fun i d hi => ?_⟩
 rw [List.getElem?_set] at hi
 rw [Array.getElem?_setIfInBounds]
 split at hi
 ·rename_i h; subst h
  rw [if_pos rfl, if_pos hkc]
  injection hi with hi; rw [hi]
 ·rename_i h
  rw [if_neg h]
  exact hcs i d hi
theorem rd_cvb {src dst e : TypeId} {b : Nat} {v : Value} {l : List UInt8} (ho : o.op = .convert src dst x) (hs : P.underlying src = some (.slice e)) (he : P.underlying e = some (.int .u8)) (hd : P.underlying dst = some .string) (hx : ev F x = some (.c (.s v))) (hH : H[b]? = some (.bts v l)) : Rd P N E o F H (.c (T l)) := fun S ρ a w hR => by
 have h1 := (hR.ev hx).1
 simp only [AV.den, CV.den] at h1
 obtain ⟨B, cs, e', n, hB, hv, hh, hcs⟩ := hR.bts hH
 have := run_convert_bytes_back (P := P) w src dst e ⟨B, 0, none⟩ n l hs he hd (fun j hj => by
  have h3 := hcs j _ (List.getElem?_eq_getElem hj)
  unfold World.cell?
  have : ((⟨B, 0, none⟩ : Addr).add j) = ⟨B, j, none⟩ := by
   unfold Addr.add; split
   ·rename_i h; subst h; rfl
   ·simp
  rw [this]
  simp only
  rw [hh]
  exact h3)
 refine ⟨?_, .c (.s _)⟩
 rw [hv] at h1
 simp [execOp, ho, h1, this, AV.den, CV.den]
theorem rd_ext {f : FuncId} {fn : Func} {args : Array Operand} {tys : Array TypeId} {vs : List AV} {us : List Value} {r : Value} {e : Array Value → Sem Value} (ho : o.op = .call { callee := .value (.func f), args := args, argTypes := tys }) (hargs : evL F args.toList = some vs) (hus : ∀ ρ H, vs.map (AV.den ρ H) = us)
    (hf : P.funcs[f]? = some fn) (hname : (fn.name == "runtime.NumGoroutine") = false) (hb : fn.body.isNone = true) (hn : Extern.findNext fn = none) (he : Extern.find fn = some e) (hr : ∀ w, (e us.toArray).run P w = .ok r w) : Rd P N E o F H (.c (.s r)) := fun S ρ a w hR => by
 obtain ⟨h1, _⟩ := evL_spec hR hargs
 rw [hus] at h1
 have h2 : args.map a.eval = us.toArray := by
  apply Array.ext'
  simpa using h1
 refine ⟨?_, .c (.s _)⟩
 have h3 : a.eval (.func f) = .func (.func f) #[] #[] := rfl
 simp [execOp, ho, resolve, h2, h3, Deferred.ofValue, invoke, run_callFunc_extern hf hname hb hn he, hr, AV.den, CV.den]
def idxB (c : UInt8) : List UInt8 → Nat → Int
 | [], _ => -1
 | b :: l, i => if b = c then i else idxB c l (i + 1)
theorem find_idxB {l : List UInt8} {c : UInt8} : ∀ (n i : Nat), i + n = l.length → (match (List.range' i n).find? (fun i => (bst l)[i]! == c) with | some i => (i : Int) | none => -1) = idxB c (l.drop i) i
 | 0, i, h => by rw [List.drop_eq_nil_of_le (by omega)]; rfl
 | n + 1, i, h => by
  have hi : i < l.length := by omega
  rw [List.drop_eq_getElem_cons hi, List.range'_succ, List.find?_cons]
  have hg : (bst l)[i]! = l[i] := by
   have h2 : i < (bst l).size := by rw [bst_size]; exact hi
   rw [getElem!_pos (bst l) i h2]
   rfl
  rw [hg, idxB]
  by_cases hc : l[i] = c
  ·rw [if_pos hc, hc]; simp
  ·rw [if_neg hc, show (l[i] == c) = false by simpa using hc]
   exact find_idxB n (i + 1) (by omega)
theorem firstIdx_eq (l : List UInt8) (c : UInt8) : firstIdx (bst l) c = idxB c l 0 := by
 have := find_idxB (l := l) (c := c) l.length 0 (by omega)
 rw [List.drop_zero] at this
 rw [← this]
 unfold firstIdx
 rw [bst_size, List.range_eq_range']
 cases (List.range' 0 l.length).find? fun i => (bst l)[i]! == c <;> rfl
theorem idxB_neg {c : UInt8} : ∀ {l : List UInt8} {i : Nat}, (0 ≤ idxB c l i ↔ c ∈ l)
 | [], i => by simp [idxB]
 | b :: l, i => by
  unfold idxB
  split
  ·rename_i h; simp [h]
  ·rename_i h; rw [idxB_neg]; simp [Ne.symm h]
end
end Go.Proofs.YtniolldgidgffaaGreatDoor
