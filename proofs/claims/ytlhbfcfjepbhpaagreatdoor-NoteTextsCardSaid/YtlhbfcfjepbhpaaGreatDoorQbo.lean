/- Small functions of the program and of its document, by value: within a span, first errors, searches and comparisons of lists. -/
import Derived.Test.YtlhbfcfjepbhpaaGreatDoorQbi
import Derived.Test.YtlhbfcfjepbhpaaGreatDoorQba
import Derived.Test.YtlhbfcfjepbhpaaGreatDoorProg
import Derived.Test.YtlhbfcfjepbhpaaGreatDoorQam
import Derived.Lib.Overlaps
import Derived.Lib.AppendZeros
import Derived.Test.YtlhbfcfjepbhpaaGreatDoorQav
import Derived.RangeFuncBox
import Derived.Test.YtlhbfcfjepbhpaaGreatDoorQaq
import Derived.Test.YtlhbfcfjepbhpaaGreatDoorQbd
import Derived.Test.YtlhbfcfjepbhpaaGreatDoorQax
set_option linter.unusedSimpArgs false
set_option linter.unusedVariables false
-- NEWM
namespace Go.Proofs.YtlhbfcfjepbhpaaGreatDoor
open Go Go.RowKit
set_option maxRecDepth 100000
end Go.Proofs.YtlhbfcfjepbhpaaGreatDoor
-- NEWM
namespace Go.Proofs.YtlhbfcfjepbhpaaGreatDoor
open Go Go.RowKit
set_option maxRecDepth 100000
end Go.Proofs.YtlhbfcfjepbhpaaGreatDoor
namespace Go.Proofs.YtlhbfcfjepbhpaaGreatDoor
open Go Go.Shelf
set_option maxRecDepth 100000
end Go.Proofs.YtlhbfcfjepbhpaaGreatDoor
-- NEWM
namespace Go.Proofs.YtlhbfcfjepbhpaaGreatDoor
open Go Go.RowKit Go.Shelf
set_option maxRecDepth 100000
end Go.Proofs.YtlhbfcfjepbhpaaGreatDoor
namespace Go.Proofs.YtlhbfcfjepbhpaaGreatDoor
open Go Go.RowKit
section
variable {P : Program} {N : Nat} {E : Env} {F : Fm} {H : List OB} {o : Oper} {S : Nat → Prop} {ρ : List (Option Nat)} {a : Act} {w : World}
end
end Go.Proofs.YtlhbfcfjepbhpaaGreatDoor
namespace Go.Proofs.YtlhbfcfjepbhpaaGreatDoor
open Go Go.RowKit
section
variable {P : Program} {N : Nat} {E : Env} {F : Fm} {H : List OB} {o : Oper} {S : Nat → Prop} {ρ : List (Option Nat)} {a : Act} {w : World}
end
end Go.Proofs.YtlhbfcfjepbhpaaGreatDoor
-- NEWM
namespace Go.Proofs.YtlhbfcfjepbhpaaGreatDoor
open Go Go.RowKit
set_option maxRecDepth 100000
end Go.Proofs.YtlhbfcfjepbhpaaGreatDoor
-- NEWM
namespace Go.Proofs.YtlhbfcfjepbhpaaGreatDoor
open Go Go.RowKit
set_option maxRecDepth 100000
end Go.Proofs.YtlhbfcfjepbhpaaGreatDoor
-- NEWM
namespace Go.Proofs.YtlhbfcfjepbhpaaGreatDoor
open Go Go.RowKit
set_option maxRecDepth 100000
end Go.Proofs.YtlhbfcfjepbhpaaGreatDoor
-- NEWM
namespace Go.Proofs.YtlhbfcfjepbhpaaGreatDoor
open Go Go.RowKit
set_option maxRecDepth 100000
end Go.Proofs.YtlhbfcfjepbhpaaGreatDoor
namespace Go.Proofs.YtlhbfcfjepbhpaaGreatDoor
open Go Go.RowKit
section
variable {P : Program} {N : Nat} {E : Env} {S : Nat → Prop} {ρ : List (Option Nat)} {F : Fm} {H : List OB} {a : Act} {w : World} {K : Fm → List OB → Prop} {Q : Exit → Fm → List OB → Prop}
def PE.ob : PE → OB
 | .bx _ l => .box (l.map .c)
 | .ar _ _ _ e sz cap rows => .arr e sz cap rows
 | .out => .dead
def PE.val : PE → Value
 | .bx v _ => v
 | .ar v .. => v
 | .out => undef
def PE.av (b : Nat) : PE → AV
 | .bx _ _ => .p b 0 0
 | .ar _ n c .. => .o b 0 n c
 | .out => .c (.s undef)
theorem mem_setL {α : Type} {l : List α} {k : Nat} {x y : α} (h : y ∈ l.set k x) : y = x ∨ y ∈ l := (List.mem_or_eq_of_mem_set h).symm
theorem hasP_set {l : List PE} {k j B : Nat} (h : (OB.pool (l.set k .out)).hasP j B) : j ≠ k ∧ (OB.pool l).hasP j B := by
 obtain ⟨l', e, h1, h2, h3⟩ := h
 injection h1 with h1
 subst h1
 rw [List.getElem?_set] at h2
 split at h2
 ·split at h2
  ·injection h2 with h2; subst h2; cases h3
  ·cases h2
 ·rename_i hne
  exact ⟨fun e => hne e.symm, l, e, rfl, h2, h3⟩
theorem R.take {p k : Nat} {l : List PE} {e : PE} (h : R N E S ρ F H a w) (hp : H[p]? = some (.pool l)) (hk : l[k]? = some e) (hne : e ≠ .out) : ∃ m, R N E S (ρ ++ [m]) F (H.set p (.pool (l.set k .out)) ++ [e.ob]) a w ∧ (e.av H.length).den (ρ ++ [m]) (H.set p (.pool (l.set k .out)) ++ [e.ob]) = e.val ∧ WF w S (ρ ++ [m]) (H.set p (.pool (l.set k .out)) ++ [e.ob]) (e.av H.length) := by
 have hpl : p < H.length := (List.getElem?_eq_some_iff.1 hp).1
 have hbl := h.hp.blk p _ hp
 have hok := hbl.2 e (List.mem_of_getElem? hk)
 let H1 := H.set p (.pool (l.set k .out))
 have hlen1 : H1.length = H.length := by simp [H1]
 have he1 : Ex ρ H ρ H1 := Ex.set hp rfl rfl (fun _ => rfl)
 have he : Ex ρ H (ρ ++ [e.blk]) (H1 ++ [e.ob]) := by
  have h2 := Ex.snoc (ρ := ρ) (H := H1) (by rw [hlen1]; exact h.hp.len) e.blk e.ob
  refine ⟨fun b hb => by rw [h2.at_ b (by rw [hlen1]; exact hb)], fun b hb => by rw [h2.sz b (by rw [hlen1]; exact hb), he1.sz b hb], fun b hb => by rw [h2.cap b (by rw [hlen1]; exact hb), he1.cap b hb], by simp [hlen1], fun b o hb hs => ?_⟩
  obtain ⟨o', h3, h4⟩ := he1.bx b o hb hs
  obtain ⟨o2, h5, h6⟩ := h2.bx b o' h3 (by rw [h4]; exact hs)
  exact ⟨o2, h5, h6.trans h4⟩
 have hobnp : ∀ k B, ¬ e.ob.hasP k B := fun k B hq => by
  obtain ⟨l', hl'⟩ := zW2 hq
  cases e <;> cases hl'
 have hin : ∀ i j B, inP (H1 ++ [e.ob]) i j B → inP H i j B ∧ ¬ (i = p ∧ j = k) := fun i j B hi => by
  obtain ⟨o, h1, h2⟩ := inP_snoc hobnp hi
  rw [List.getElem?_set] at h1
  split at h1
  ·rename_i hpi
   subst hpi
   try rw [if_pos hpl] at h1
   injection h1 with h1
   subst h1
   obtain ⟨h3, h4⟩ := hasP_set h2
   exact ⟨⟨_, hp, h4⟩, fun h => h3 h.2⟩
  ·rename_i hpi
   exact ⟨⟨o, h1, h2⟩, fun h => hpi h.1.symm⟩
 have hat : ∀ i, atB (ρ ++ [e.blk]) i = if i = H.length then e.blk else atB ρ i := fun i => by rw [zo1, h.hp.len]
 have hsrc : ∀ i B, atB (ρ ++ [e.blk]) i = some B → (i ≠ H.length ∧ atB ρ i = some B) ∨ (i = H.length ∧ e.blk = some B ∧ inP H p k B) := fun i B hi => by
  rw [hat] at hi
  split at hi
  ·rename_i hii; exact .inr ⟨hii, hi, _, hp, l, e, rfl, hk, hi⟩
  ·rename_i hii; exact .inl ⟨hii, hi⟩
 have hR : R N E S (ρ ++ [e.blk]) F (H1 ++ [e.ob]) a w := by
  refine h.ex he Mo.refl ⟨by simp [hlen1, h.hp.len], fun i i' B hi hi' => ?_, fun i B hi => ?_, fun i B hi => ?_, h.hp.sS, fun i o ho => ?_, ⟨fun i j i' j' B h1 h2 => h.hp.pl.pd _ _ _ _ _ (hin _ _ _ h1).1 (hin _ _ _ h2).1, fun i j B h1 => ?_⟩⟩ h.st (fun i B hi => ?_) h.nS (fun i j B hi => h.pw _ _ _ (hin _ _ _ hi).1)
  ·rcases hsrc i B hi with ⟨e1, e2⟩ | ⟨e1, e2, e3⟩ <;> rcases hsrc i' B hi' with ⟨f1, f2⟩ | ⟨f1, f2, f3⟩
   ·exact h.hp.nd _ _ _ e2 f2
   ·exact absurd e2 ((h.hp.pl.ps _ _ _ f3).2.1 i)
   ·exact absurd f2 ((h.hp.pl.ps _ _ _ e3).2.1 i')
   ·omega
  ·rcases hsrc i B hi with ⟨e1, e2⟩ | ⟨e1, e2, e3⟩
   ·exact h.hp.ap _ _ e2
   ·exact (h.hp.pl.ps _ _ _ e3).1
  ·rcases hsrc i B hi with ⟨e1, e2⟩ | ⟨e1, e2, e3⟩
   ·exact h.hp.lt _ _ e2
   ·exact (h.hp.pl.ps _ _ _ e3).2.2
  ·rcases Nat.lt_or_ge i H.length with hil | hil
   ·rw [List.getElem?_append_left (by rw [hlen1]; exact hil)] at ho
    rw [hat, if_neg (by omega)]
    rw [List.getElem?_set] at ho
    split at ho
    ·rename_i hpi
     subst hpi
     try rw [if_pos hpl] at ho
     injection ho with ho
     subst ho
     refine ⟨hbl.1, fun x hx => ?_⟩
     rcases mem_setL hx with rfl | hx
     ·trivial
     ·exact hbl.2 x hx
    ·exact (h.hp.blk i o ho).ex he Mo.refl (fun _ _ => rfl) (fun _ _ _ => rfl)
   ·rw [List.getElem?_append_right (by rw [hlen1]; exact hil), hlen1] at ho
    cases hq : i - H.length with
    | succ n => rw [hq] at ho; simp at ho
    | zero =>
     rw [hq] at ho
     simp only [List.getElem?_cons_zero, Option.some.injEq] at ho
     subst ho
     rw [hat, if_pos (by omega)]
     cases e with
     | out => exact absurd rfl hne
     | bx v row =>
      obtain ⟨B, t, rfl, h1, h2⟩ := hok
      refine ⟨B, t, rfl, ?_, fun x hx => ?_⟩
      ·rw [h1, List.map_map]; rfl
      ·obtain ⟨u, hu, rfl⟩ := List.mem_map.1 hx
       exact ⟨.c (h2 u hu).1, (h2 u hu).2⟩
     | ar v n c et sz cap rows =>
      rcases hok with ⟨rfl, _, _, h3, h4⟩ | ⟨B, cs, rfl, h1, h2, h3, h4, h5, h6, h7, h8⟩
      ·exact .inl ⟨rfl, h3, h4⟩
      ·exact .inr ⟨B, cs, rfl, h3, h4, h5, h6, h7, h8⟩
  ·obtain ⟨g1, g2, g3⟩ := h.hp.pl.ps _ _ _ (hin _ _ _ h1).1
   refine ⟨g1, fun q hq => ?_, g3⟩
   rcases hsrc q B hq with ⟨_, e2⟩ | ⟨_, _, e3⟩
   ·exact g2 _ e2
   ·obtain ⟨e4, e5⟩ := h.hp.pl.pd _ _ _ _ _ (hin _ _ _ h1).1 e3
    exact (hin _ _ _ h1).2 ⟨e4, e5⟩
  ·rcases hsrc i B hi with ⟨_, e2⟩ | ⟨_, _, e3⟩
   ·exact h.nw _ _ e2
   ·exact .inl (h.pw _ _ _ e3)
 refine ⟨e.blk, hR, ?_, ?_⟩
 ·have hb : atB (ρ ++ [e.blk]) H.length = e.blk := by rw [hat, if_pos rfl]
  cases e with
  | out => exact absurd rfl hne
  | bx v row =>
   obtain ⟨B, t, rfl, h1, h2⟩ := hok
   simp only [PE.av, AV.den, hb, PE.val]
   simp [PE.blk]
  | ar v n c et sz cap rows =>
   rcases hok with ⟨rfl, rfl, rfl, h3, h4⟩ | ⟨B, cs, rfl, h1, h2, h3, h4, h5, h6, h7, h8⟩
   ·simp only [PE.av, AV.den, hb, PE.val]
    simp [PE.blk]
   ·simp only [PE.av, AV.den, hb, PE.val]
    simp [PE.blk]
 ·have hb : atB (ρ ++ [e.blk]) H.length = e.blk := by rw [hat, if_pos rfl]
  have hc : capAt (H1 ++ [e.ob]) H.length = e.ob.cap := by unfold capAt; rw [List.getElem?_append_right (by rw [hlen1]; exact Nat.le_refl _), hlen1]; simp
  cases e with
  | out => exact absurd rfl hne
  | bx v row =>
   obtain ⟨B, t, rfl, h1, h2⟩ := hok
   exact .p (by simp) (by rw [hb]; rfl)
  | ar v n c et sz cap rows =>
   rcases hok with ⟨rfl, rfl, rfl, h3, h4⟩ | ⟨B, cs, rfl, h1, h2, h3, h4, h5, h6, h7, h8⟩
   ·exact .o (by simp) (Nat.le_refl _) (by simp) (fun _ => ⟨rfl, rfl⟩)
   ·exact .o (by simp) h1 (by rw [hc]; simpa [PE.ob, OB.cap] using h2) (fun h => by rw [hb] at h; cases h)
end
end Go.Proofs.YtlhbfcfjepbhpaaGreatDoor
namespace Go.Proofs.YtlhbfcfjepbhpaaGreatDoor
open Go Go.RowKit
section
variable {P : Program} {N : Nat} {E E2 : Env} {F F1 : Fm} {H H1 : List OB} {S S1 : Nat → Prop} {ρ ρ1 : List (Option Nat)} {a a1 : Act} {w W : World}
end
section
variable {P : Program} {w : World}
end
def AVF : AV → Prop
 | .c (.s _) => True
 | .p .. => True
 | .o .. => True
 | .mp _ => True
 | _ => False
def OBF : OB → Prop
 | .box l => ∀ x ∈ l, AVF x
 | .boxt _ l => ∀ x ∈ l, AVF x
 | .arr _ _ _ rows => ∀ row ∈ rows, ∀ u ∈ row, ∃ v, u = .s v
 | .map es _ => ∀ e ∈ es, ∃ v, e.2.2 = .s v
 | _ => False
def OBC (o : OB) : Prop := ∃ xs : List CV, o = .box (xs.map .c)
def FlatH (H0 H : List OB) : Prop := ∀ (i : Nat) (o : OB), H[i]? = some o → OBF o ∨ (OBC o ∧ H0[i]? = some o)
theorem FlatH.nil (H0 : List OB) : FlatH H0 [] := fun i o h => by simp at h
theorem WF.flat {w : World} {S S0 : Nat → Prop} {ρ : List (Option Nat)} {H : List OB} {x : AV} (hf : AVF x) (h : WF w S ρ H x) : WF w S0 ρ H x := by
 cases h with
 | c hg => rename_i x; cases x <;> first | exact .c (.s _) | exact hf.elim
 | p h0 h => exact .p h0 h
 | o h0 h1 h2 h3 => exact .o h0 h1 h2 h3
 | mp h0 h => exact .mp h0 h
 | q => exact hf.elim
 | a => exact hf.elim
 | t => exact hf.elim
 | f => exact hf.elim
theorem OwnB.flat {w : World} {S S0 : Nat → Prop} {ρ : List (Option Nat)} {H : List OB} {o : OB} {m : Option Nat} (hf : OBF o) (h : OwnB w S ρ H o m) : OwnB w S0 ρ H o m := by
 cases o with
 | box l =>
  obtain ⟨B, t, rfl, h1, h2⟩ := h
  exact ⟨B, t, rfl, h1, fun x hx => ⟨(h2 x hx).1.flat (hf x hx), (h2 x hx).2⟩⟩
 | boxt t l =>
  obtain ⟨B, rfl, h1, h2⟩ := h
  exact ⟨B, rfl, h1, fun x hx => ⟨(h2 x hx).1.flat (hf x hx), (h2 x hx).2⟩⟩
 | arr e sz cap rows =>
  rcases h with h | ⟨B, cs, rfl, h1, h2, hm2, h3, h4, h5⟩
  ·exact .inl h
  ·exact .inr ⟨B, cs, rfl, h1, h2, hm2, h3, fun row hr => ⟨(h4 row hr).1, fun u hu => ⟨by obtain ⟨v, rfl⟩ := hf row hr u hu; exact .s v, ((h4 row hr).2 u hu).2⟩⟩, h5⟩
 | map es ck =>
  obtain ⟨B, ms, rfl, h1, h2, h3⟩ := h
  exact ⟨B, ms, rfl, h1, h2, fun e he => by obtain ⟨v, hv⟩ := hf e he; rw [hv]; exact .s v⟩
 | _ => exact hf.elim
def SameS (H0 H : List OB) : Prop := ∃ ext, H.map OB.shp = H0.map OB.shp ++ ext ∧ ∀ k ∈ ext, k ≠ 2
theorem SameS.len {H0 H : List OB} (h : SameS H0 H) : H0.length ≤ H.length := by
 obtain ⟨ext, h, _⟩ := h
 have := congrArg List.length h
 simp at this; omega
theorem SameS.at_ {H0 H : List OB} (h : SameS H0 H) {i : Nat} {o0 : OB} (h0 : H0[i]? = some o0) : ∃ o, H[i]? = some o ∧ o.shp = o0.shp := by
 obtain ⟨ext, h, _⟩ := h
 have := congrArg (fun l => l[i]?) h
 simp only [List.getElem?_map] at this
 rw [List.getElem?_append_left (by simpa using (List.getElem?_eq_some_iff.1 h0).1)] at this
 simp only [List.getElem?_map, h0, Option.map_some] at this
 cases hi : H[i]? with
 | none => rw [hi] at this; cases this
 | some o => rw [hi] at this; simp only [Option.map_some, Option.some.injEq] at this; exact ⟨o, rfl, this⟩
theorem SameS.map {H0 H : List OB} (h : SameS H0 H) {i : Nat} {o : OB} (ho : H[i]? = some o) (h2 : o.shp = 2) : ∃ o0, H0[i]? = some o0 ∧ o0.shp = 2 := by
 obtain ⟨ext, h, hx⟩ := h
 have := congrArg (fun l => l[i]?) h
 simp only [List.getElem?_map, ho, Option.map_some, h2] at this
 rw [List.getElem?_append] at this
 split at this
 ·rename_i hl
  rw [List.getElem?_map] at this
  cases h0 : H0[i]? with
  | none => rw [h0] at this; cases this
  | some o0 => rw [h0] at this; simp only [Option.map_some, Option.some.injEq] at this; exact ⟨o0, rfl, this.symm⟩
 ·exact absurd rfl (hx 2 (List.mem_of_getElem? this.symm))
section
variable {P : Program} {N : Nat} {E E2 : Env} {F F1 : Fm} {H H1 : List OB} {S S1 : Nat → Prop} {ρ ρ1 : List (Option Nat)} {a a1 : Act} {w w' W : World}
end
def KpB (B : Nat) (v : Value) (S0 : Nat → Prop) (W W' : World) : Prop := ((∃ t, W.heap[B]? = some (.cells #[v] t (0, 0))) → ∃ t, W'.heap[B]? = some (.cells #[v] t (0, 0))) ∧ ∀ b, S0 b → W'.heap[b]? = W.heap[b]?
def stb (H : List OB) : AV → Bool
 | .c _ => true
 | .p b _ _ => match H[b]? with
  | some (.box _) => true
  | _ => false
 | .mp b => match H[b]? with
  | some (.map _ _) => true
  | _ => false
 | _ => false
inductive KeepL (F : Fm) (H : List OB) : Fm → Prop where
 | nil : KeepL F H []
 | cons {i : Nat} {x : AV} {l : Fm} (h : F.lookup i = some x) (hs : stb H x = true) (t : KeepL F H l) : KeepL F H ((i, x) :: l)
theorem KeepL.get {F : Fm} {H : List OB} {l : Fm} (h : KeepL F H l) : ∀ i x, l.lookup i = some x → F.lookup i = some x ∧ stb H x = true := by
 induction h with
 | nil => intro i x hx; cases hx
 | @cons j y l h hs _ ih =>
  intro i x hx
  rw [List.lookup_cons] at hx
  split at hx
  ·rename_i hij
   have : i = j := by simpa using hij
   subst this
   cases hx
   exact ⟨h, hs⟩
  ·exact ih i x hx
section
variable {P : Program} {N : Nat} {E E2 : Env} {F F0 F1 : Fm} {H H0 : List OB} {S S0 : Nat → Prop} {ρ ρ0 : List (Option Nat)} {a a0 : Act} {w w' W : World}
end
end Go.Proofs.YtlhbfcfjepbhpaaGreatDoor
-- NEWM
namespace Go.Proofs.YtlhbfcfjepbhpaaGreatDoor
open Go Go.RowKit
set_option maxRecDepth 100000
abbrev RW (N B : Nat) (v : Value) (rows : List (List CV)) (S0 : Nat → Prop) (F : Fm) (a : Act) (W : World) : Prop := R N ⟨W, S0, [some B], [.box [.c (.r v rows)]], false, none, []⟩ S0 [some B] F [.box [.c (.r v rows)]] a W
section
variable {N B : Nat} {v : Value} {rows : List (List CV)} {S0 : Nat → Prop} {F : Fm} {a : Act} {w W W' : World}
theorem RW.mk' (hb : ∃ t, W.heap[B]? = some (.cells #[v] t (0, 0))) (hg : Good W S0 (.r v rows)) (hap : ¬ S0 B) (hlt : ∀ b, S0 b → b < W.heap.size) (hd : a.defers = []) (hz : N ≤ a.tmps.size) (hf : ∀ i x, F.lookup i = some x → a.tmps[i]? = some (x.den [some B] [.box [.c (.r v rows)]]) ∧ WF W S0 [some B] [.box [.c (.r v rows)]] x) : RW N B v rows S0 F a W := by
 obtain ⟨t, ht⟩ := hb
 have hone : v.oneCell' = true := by cases hg <;> rfl
 have hat : ∀ i B', atB [some B] i = some B' → i = 0 ∧ B' = B := fun i B' h => by
  cases i with
  | zero => exact ⟨rfl, by simpa [atB] using h.symm⟩
  | succ i => simp [atB] at h
 have hnp : ∀ i k B', ¬ inP [OB.box [.c (.r v rows)]] i k B' := fun i k B' ⟨o, h1, h2⟩ => by
  obtain ⟨l, rfl⟩ := zW2 h2
  cases i with
  | zero => simp at h1
  | succ i => simp at h1
 refine ⟨hd, hz, hf, ⟨rfl, fun i i' B' h h' => by rw [(hat _ _ h).1, (hat _ _ h').1], fun i B' h hs => hap ((hat _ _ h).2 ▸ hs), fun i B' h => ?_, hlt, fun i o ho => ?_, PL.none hnp⟩, Stp.refl _ _, fun i B' h => .inr ⟨by rw [(hat _ _ h).1]; exact Nat.zero_lt_one, h⟩, fun b h => .inl h, fun i k B' h => absurd h (hnp i k B'), fun i h => ⟨h, fun o ho _ => ⟨rfl, o, ho, rfl⟩⟩, fun h => by cases h⟩
 ·rw [(hat _ _ h).2]; exact (Array.getElem?_eq_some_iff.1 ht).1
 ·cases i with
  | zero =>
   simp only [List.getElem?_cons_zero, Option.some.injEq] at ho
   subst ho
   exact ⟨B, t, rfl, ht, fun x hx => by rw [List.mem_singleton] at hx; subst hx; exact ⟨.c hg, hone⟩⟩
  | succ i => simp at ho
theorem RW.next (h : RW N B v rows S0 F a W) (hk : KpB B v S0 W W') : RW N B v rows S0 F a W' := by
 have hmo : Mo W S0 W' S0 := fun b hb => ⟨hb, hk.2 b hb⟩
 obtain ⟨B', t, hB, hBw, hBx⟩ := h.hp.blk 0 _ rfl
 have hBB : B = B' := by simpa [atB] using hB
 subst hBB
 have hg : Good W S0 (.r v rows) := by
  have := (hBx (.c (.r v rows)) (by simp)).1
  cases this with | c h => exact h
 refine RW.mk' (hk.1 ⟨t, hBw⟩) (hg.mono hmo) (h.hp.ap 0 B rfl) (fun b hb => ?_) h.df h.sz fun i x hx => ⟨(h.fr i x hx).1, (h.fr i x hx).2.ex (Ex.refl _ _) hmo⟩
 have h1 := h.hp.sS b hb
 have h2 := hk.2 b hb
 rw [Array.getElem?_eq_getElem h1] at h2
 exact (Array.getElem?_eq_some_iff.1 h2).1
end
end Go.Proofs.YtlhbfcfjepbhpaaGreatDoor
-- NEWM
namespace Go.Proofs.YtlhbfcfjepbhpaaGreatDoor
open Go Go.RowKit
set_option maxRecDepth 100000
end Go.Proofs.YtlhbfcfjepbhpaaGreatDoor
namespace Go.Proofs.YtlhbfcfjepbhpaaGreatDoor
open Go Go.RowKit
def SwK {α : Type} (l : List α) (k : Nat) (l' : List α) : Prop := l'.length = l.length ∧ ∀ m, m < l.length → l'[m]? = if m < k ∨ l.length - 1 - m < k then l[l.length - 1 - m]? else l[m]?
theorem SwK.zero {α : Type} (l : List α) : SwK l 0 l := ⟨rfl, fun m hm => by rw [if_neg (by omega)]⟩
theorem SwK.next {α : Type} {l l' : List α} {k j : Nat} {x y : α} (h : SwK l k l') (hj : k + j + 1 = l.length) (hkj : k < j) (hx : l'[k]? = some x) (hy : l'[j]? = some y) : SwK l (k + 1) ((l'.set k y).set j x) := by
 obtain ⟨h1, h2⟩ := h
 have ek := h2 k (by omega)
 have ej := h2 j (by omega)
 rw [if_neg (by omega), hx] at ek
 rw [if_neg (by omega), hy] at ej
 refine ⟨by simp [h1], fun m hm => ?_⟩
 rw [List.getElem?_set, List.getElem?_set]
 by_cases hmj : j = m
 ·subst hmj
  rw [if_pos rfl, if_pos (by simp; omega), if_pos (by omega), show l.length - 1 - j = k from by omega, ← ek]
 ·rw [if_neg hmj]
  by_cases hmk : k = m
  ·subst hmk
   rw [if_pos rfl, if_pos (by omega), if_pos (by omega), show l.length - 1 - k = j from by omega, ← ej]
  ·rw [if_neg hmk, h2 m hm]
   by_cases hc : m < k ∨ l.length - 1 - m < k
   ·rw [if_pos hc, if_pos (by omega)]
   ·rw [if_neg hc, if_neg (by omega)]
end Go.Proofs.YtlhbfcfjepbhpaaGreatDoor
-- NEWM
namespace Go.Proofs.YtlhbfcfjepbhpaaGreatDoor
open Go Go.RowKit
set_option maxRecDepth 100000
end Go.Proofs.YtlhbfcfjepbhpaaGreatDoor
-- NEWM
namespace Go.Proofs.YtlhbfcfjepbhpaaGreatDoor
open Go Go.RowKit
set_option maxRecDepth 100000
end Go.Proofs.YtlhbfcfjepbhpaaGreatDoor
namespace Go.Proofs.YtlhbfcfjepbhpaaGreatDoor
open Go Go.RowKit
end Go.Proofs.YtlhbfcfjepbhpaaGreatDoor
-- NEWM
namespace Go.Proofs.YtlhbfcfjepbhpaaGreatDoor
open Go Go.RowKit
set_option maxRecDepth 100000
end Go.Proofs.YtlhbfcfjepbhpaaGreatDoor
-- NEWM
namespace Go.Proofs.YtlhbfcfjepbhpaaGreatDoor
open Go Go.RowKit
set_option maxRecDepth 100000
end Go.Proofs.YtlhbfcfjepbhpaaGreatDoor
namespace Go.Proofs.YtlhbfcfjepbhpaaGreatDoor
open Go Go.RowKit
end Go.Proofs.YtlhbfcfjepbhpaaGreatDoor
-- NEWM
namespace Go.Proofs.YtlhbfcfjepbhpaaGreatDoor
open Go Go.RowKit
set_option maxRecDepth 100000
end Go.Proofs.YtlhbfcfjepbhpaaGreatDoor
-- NEWM
namespace Go.Proofs.YtlhbfcfjepbhpaaGreatDoor
open Go Go.RowKit
set_option maxRecDepth 100000
theorem equalN_v (v w : Value) (a b : List Nt) (ha : a.length ≤ 1000000) (hb : b.length ≤ 1000000) : ACalls Tryz.prog 15 [.c (.r v (noRs a)), .c (.r w (noRs b))] [] fun u H => u = .c (B (decide (a = b))) ∧ H = [] := by
 have e1 : (noRs a).length = a.length := by simp
 have e2 : (noRs b).length = b.length := by simp
 refine zg (N := 26) Tryz.func15 rfl rfl (by simp) fun E hE => ?_
 refine WA ?_
 refine WA ?_
 refine zw rfl (fun h0 => ?_) (fun h0 => ?_)
 ·refine WA ?_
  exact zh [] _ rfl rfl rfl (by decide) (ZNK rfl) (fun _ => .nil) ⟨by rw [decide_eq_false (fun h => h0 (by rw [h]))], rfl⟩
 have hlen : a.length = b.length := by omega
 refine ZZ ?_
 refine WA ?_
 refine zK (fun m F H => ∃ (k : Nat), m + k = a.length ∧ a.take k = b.take k ∧ F = [(0, .c (.r v (noRs a))), (1, .c (.r w (noRs b))), (12, .c (I (noRs a).length)), (13, .c (I k))] ∧ H = []) ?_ ?_
 ·refine zp [] (fun _ => [(0, .c (.r v (noRs a))), (1, .c (.r w (noRs b))), (12, .c (I (noRs a).length)), (13, .c (I (0 : Nat)))]) (fun _ => []) (by decide) (ZNL hE) ZCF (fun _ => .nil) (fun _ => ?_)
  exact ⟨a.length, 0, by omega, rfl, rfl, rfl⟩
 rintro m F H ⟨k, hk, hf, rfl, rfl⟩
 refine WA ?_
 refine zw rfl (fun hlt => ?_) (fun hge => ?_)
 ·obtain ⟨x, hx⟩ : ∃ n, a[k]? = some n := ⟨_, List.getElem?_eq_getElem (by omega)⟩
  obtain ⟨y, hy⟩ : ∃ n, b[k]? = some n := ⟨_, List.getElem?_eq_getElem (by omega)⟩
  have hrx0 := zf2 hx
  have hry0 := zf2 hy
  obtain ⟨q, hq⟩ : ∃ q, decide (¬ x = y) = q := ⟨_, rfl⟩
  have hta : a.take (k + 1) = a.take k ++ [x] := by rw [List.take_add_one, hx]; rfl
  have htb : b.take (k + 1) = b.take k ++ [y] := by rw [List.take_add_one, hy]; rfl
  obtain ⟨x0, x1, x2, x3, x4, x5, x6, x7, x8, x9⟩ := x
  obtain ⟨y0, y1, y2, y3, y4, y5, y6, y7, y8, y9⟩ := y
  have hrx : (noRs a)[k]? = some [T x0, I x1, I x2, I x3, T x4, T x5, T x6, I x7, T x8, I x9] := hrx0
  have hry : (noRs b)[k]? = some [T y0, I y1, I y2, I y3, T y4, T y5, T y6, I y7, T y8, I y9] := hry0
  refine WA ?_
  refine ZZ ?_
  refine zk [(0, none), (1, none), (2, none), (3, none), (4, none), (5, none), (6, none), (7, none), (8, none)] zS (by kernel_rfl) ?_
  iterate 8 refine WX2 ?_
  refine ZT rfl (rd_neqN (a := ⟨x0, x1, x2, x3, x4, x5, x6, x7, x8, x9⟩) (b := ⟨y0, y1, y2, y3, y4, y5, y6, y7, y8, y9⟩) hq rfl rfl rfl) ?_
  refine WQ ?_
  cases q with
  | true =>
   refine zb rfl ?_
   refine ZZ ?_
   refine WA ?_
   refine zh [] _ rfl rfl rfl (by decide) (ZNK rfl) (fun _ => .nil) ⟨?_, rfl⟩
   rw [decide_eq_false]
   intro h
   rw [h, hy] at hx
   exact of_decide_eq_true hq (Option.some.inj hx).symm
  | false =>
   refine za rfl ?_
   refine ZZ ?_
   refine WA ?_
   refine zp [] (fun _ => [(0, .c (.r v (noRs a))), (1, .c (.r w (noRs b))), (12, .c (I (noRs a).length)), (13, .c (I (k + 1 : Nat)))]) (fun _ => []) (by decide) (ZNL hE) ZCF (fun _ => .nil) (fun _ => ?_)
   exact ⟨m - 1, by omega, k + 1, by omega, by rw [hta, htb, hf, Decidable.not_not.1 (of_decide_eq_false hq)], rfl, rfl⟩
 rw [List.take_of_length_le (by omega), List.take_of_length_le (by omega)] at hf
 refine ZZ ?_
 refine WA ?_
 exact zh [] _ rfl rfl rfl (by decide) (ZNK rfl) (fun _ => .nil) ⟨by rw [decide_eq_true hf], rfl⟩
end Go.Proofs.YtlhbfcfjepbhpaaGreatDoor
namespace Go.Proofs.YtlhbfcfjepbhpaaGreatDoor
open Go Go.RowKit
set_option maxRecDepth 100000
end Go.Proofs.YtlhbfcfjepbhpaaGreatDoor
