/- The stream's style of lines. -/
import Derived.Test.YtfilfijammemfaaGreatDoorQbv
import Derived.Scope
import Derived.LoopNIn
import Derived.TacticsIn
import Derived.RangeFuncLeaves
import Derived.RangeFuncCalls
import Derived.Maps.RangeRun
import Derived.Test.YtfilfijammemfaaGreatDoorProg
import Derived.Test.YtfilfijammemfaaGreatDoorQaq
import Derived.Test.YtfilfijammemfaaGreatDoorQbh
import Derived.Test.YtfilfijammemfaaGreatDoorQau
import Derived.Test.YtfilfijammemfaaGreatDoorQbu
import Derived.Test.YtfilfijammemfaaGreatDoorQbq
set_option linter.unusedSimpArgs false
set_option linter.unusedVariables false
/- Closed calls: inside a fence: lists of operations, a loop's yield. Conditions: none. -/
namespace Go.Proofs.YtfilfijammemfaaGreatDoor
open Go Go.RowKit
set_option maxRecDepth 100000
def Ext (E E' : XEnv) : Prop := E'.w = E.w ∧ (∀ B ob, E.X B = some ob → E'.X B = some ob) ∧ ∀ D ∈ E'.own, D ∈ E.own ∨ E.X D = none
theorem Ext.refl (E : XEnv) : Ext E E := ⟨rfl, fun _ _ h => h, fun _ h => .inl h⟩
theorem Ext.trans {A B C : XEnv} (h : Ext A B) (k : Ext B C) : Ext A C := ⟨k.1.trans h.1, fun D ob hD => k.2.1 D ob (h.2.1 D ob hD), fun D hD => by
 rcases k.2.2 D hD with h1 | h1
 ·exact h.2.2 D h1
 ·cases hA : A.X D with
  | none => exact .inr rfl
  | some ob => rw [h.2.1 D ob hA] at h1; cases h1⟩
abbrev XYh := Option (Nat × (List XV → XHp → Nat → Option (XHp × Nat)))
def XF (rd : Bool) (F : Fence) : Prop := (rd = false ∧ F = Fence.wide) ∨ (rd = true ∧ ∃ l, F = Fence.wide.inRound l)
theorem XF.depth {rd : Bool} {F : Fence} (h : XF rd F) : F.depth = none := by
 rcases h with ⟨_, rfl⟩ | ⟨_, l, rfl⟩ <;> rfl
section
variable {P : Program} {N : Nat} {w0 : XEnv} {ρ γ : Nat → Nat} {F F' : XFr} {H H' : XHp} {a : Act} {w : World} {o : Oper} {call : XCf} {ops l : List Oper} {yh : XYh} {rd : Bool} {Fe : Fence} {n : Nat}
end
end Go.Proofs.YtfilfijammemfaaGreatDoor

/- Closed calls: walks through maps of several entries, in any order, where each round leaves what was there. Conditions: none. -/
namespace Go.Proofs.YtfilfijammemfaaGreatDoor
open Go Go.RowKit
set_option maxRecDepth 100000
def XT.sub {α : Type} (f : α → α → Bool) : XT α → XT α → Bool
 | .nil, _ => true
 | .node l v r, .node l' v' r' => (match v, v' with
  | none, _ => true
  | some x, some y => f x y
  | some _, none => false) && l.sub f l' && r.sub f r'
 | .node _ _ _, .nil => false
def pin (X : Nat → Option Obj) (B : Nat) (ob : Obj) : Nat → Option Obj := fun i => if i = B then some ob else X i
section
variable {P : Program} {N : Nat} {E : XEnv} {ρ γ : Nat → Nat} {F : XFr} {H Hs H1 : XHp} {a : Act} {w w' : World} {bi : Nat} {z : XB}
theorem XR.aside {ob : Obj} (hR : XR N E ρ γ F Hs a w) (hz : Hs.get bi = some z) (hl : z.live = true) (h1 : ∀ i, H1.get i = if i = bi then some .dead else Hs.get i) : XR N ⟨E.w, pin E.X (ρ bi) ob, E.own⟩ ρ γ F H1 a (putBlk w (ρ bi) ob) := by
 have hA : Agr Hs ρ γ H1 ρ γ := fun b hb => by
  refine ⟨?_, rfl, rfl⟩
  rw [h1]; split
  ·rfl
  ·exact hb
 have hX := hR.hp.ap bi z hz hl
 obtain ⟨hlo, hhi⟩ := hR.hp.hi bi z hz hl
 have hcase : ∀ i o, H1.get i = some o → o.live = true → i ≠ bi ∧ Hs.get i = some o := fun i o hi lo => by
  rw [h1] at hi
  split at hi
  ·injection hi with hi; subst hi; cases lo
  ·rename_i e; exact ⟨e, hi⟩
 have hne : ∀ i o, i ≠ bi → Hs.get i = some o → o.live = true → ρ i ≠ ρ bi := fun i o hi ho lo e => hi (hR.hp.nd i bi o z ho hz lo hl e)
 have hp : XH ⟨E.w, pin E.X (ρ bi) ob, E.own⟩ ρ γ H1 (putBlk w (ρ bi) ob) := by
  refine ⟨fun i j o o' hi hj lo lo' e => ?_, fun i o hi lo => ?_, fun i o hi lo => ?_, fun i o hi => ?_, ⟨?_, fun B x hB => ?_⟩⟩
  ·exact hR.hp.nd i j o o' (hcase i o hi lo).2 (hcase j o' hj lo').2 lo lo' e
  ·have := hR.hp.hi i o (hcase i o hi lo).2 lo
   exact ⟨this.1, by simpa [putBlk] using this.2⟩
  ·obtain ⟨g1, g2⟩ := hcase i o hi lo
   show pin E.X (ρ bi) ob (ρ i) = none
   unfold pin
   rw [if_neg (hne i o g1 g2 lo)]
   exact hR.hp.ap i o g2 lo
  ·rw [h1] at hi
   split at hi
   ·injection hi with hi; subst hi; exact ⟨trivial, trivial⟩
   ·rename_i e
    obtain ⟨g1, g2⟩ := hR.hp.bl i o hi
    refine ⟨XB.ok_agr hA g1, ?_⟩
    cases hlo : o.live with
    | false => cases o <;> first | trivial | (cases hlo)
    | true => exact g2.keep g1 hA (by rw [putBlk_get, if_neg (fun h => hne i o e hi hlo h.1)])
  ·have hst := hR.hp.st
   refine ⟨hst.os, hst.tape, hst.output, by simpa [putBlk] using hst.size, fun i hi hn => ?_, hst.drawn⟩
   rw [putBlk_get, if_neg (by rintro ⟨e, _⟩; have h0 : i < E.w.heap.size := hi; omega)]
   exact hst.block i hi hn
  ·rw [putBlk_get]
   have hB' : pin E.X (ρ bi) ob B = some x := hB
   unfold pin at hB'
   split at hB'
   ·rename_i e
    rw [if_pos ⟨e, by omega⟩]
    exact hB'
   ·rename_i e
    rw [if_neg (fun h => e h.1)]
    exact hR.hp.st.fx B x hB'
 refine ⟨⟨hR.df.1, hR.df.2.1, fun D hD => ?_⟩, hR.sz, fun i x hi => ?_, hp⟩
 ·obtain ⟨d1, d2⟩ := hR.df.2.2 D hD
  refine ⟨?_, d2⟩
  show pin E.X (ρ bi) ob D = _
  unfold pin
  rw [if_neg (fun e => by rw [e, hX] at d1; cases d1)]
  exact d1
 ·obtain ⟨g1, g2⟩ := hR.fr i x hi
  exact ⟨g1, hA.ok g2⟩
end
section
variable {P : Program} {N m n : Nat} {F : XFr} {H : XHp} {call : XCf} {yh : XYh} {rd : Bool} {Fe : Fence}
end
end Go.Proofs.YtfilfijammemfaaGreatDoor

/- Closed calls: code, ranges over functions. Conditions: none. -/
namespace Go.Proofs.YtfilfijammemfaaGreatDoor
open Go Go.RowKit
set_option maxRecDepth 100000
section
variable {P : Program} {N : Nat} {w0 : XEnv} {ρ γ : Nat → Nat} {F F' : XFr} {H H' : XHp} {a : Act} {w : World} {o : Oper} {call : XCf}
theorem XH.pin {E : XEnv} {own : List Nat} (h : XH E ρ γ H w) (ob : Obj) : XH ⟨E.w, pin E.X w.heap.size ob, own⟩ ρ γ H (w.alloc ob) := by
 have hst := h.st.alloc ob
 refine ⟨h.nd, fun i o ho lo => ?_, fun i o ho lo => ?_, fun i o ho => ?_, ⟨hst.toStp, fun B x hB => ?_⟩⟩
 ·have := h.hi i o ho lo
  exact ⟨this.1, by simp; omega⟩
 ·have := (h.hi i o ho lo).2
  simp only [Go.Proofs.YtfilfijammemfaaGreatDoor.pin]
  rw [if_neg (by omega)]
  exact h.ap i o ho lo
 ·obtain ⟨h1, h2⟩ := h.bl i o ho
  refine ⟨h1, ?_⟩
  cases hl : o.live with
  | false => cases o <;> first | trivial | (cases hl)
  | true => exact h2.keep h1 (Agr.refl _ _ _) (Below.heap_alloc w ob _ (h.hi i o ho hl).2)
 ·simp only [Go.Proofs.YtfilfijammemfaaGreatDoor.pin] at hB
  split at hB
  ·rename_i e
   injection hB with hB
   subst hB
   subst e
   exact heap_alloc_new w ob
  ·exact hst.fx B x hB
theorem XH.name {k : Nat} (h : XH w0 ρ γ H w) (hn : xnew H k .dead = some H') (l : Nat) : XH w0 (upd ρ k l) (upd γ k 0) H' w ∧ Agr H ρ γ H' (upd ρ k l) (upd γ k 0) := by
 obtain ⟨h1, h2⟩ := xnew_get hn
 have hA := agr_new (ρ := ρ) (γ := γ) hn l 0
 have hcase : ∀ i x, H'.get i = some x → x.live = true → i ≠ k ∧ H.get i = some x := fun i x hi lx => by
  rw [h2] at hi
  split at hi
  ·injection hi with hi; subst hi; cases lx
  ·rename_i e; exact ⟨e, hi⟩
 refine ⟨⟨fun i j x y hx hy lx ly e => ?_, fun i x hx lx => ?_, fun i x hx lx => ?_, fun i x hx => ?_, h.st⟩, hA⟩
 ·obtain ⟨a1, a2⟩ := hcase i x hx lx
  obtain ⟨b1, b2⟩ := hcase j y hy ly
  rw [upd_ne a1, upd_ne b1] at e
  exact h.nd i j x y a2 b2 lx ly e
 ·obtain ⟨a1, a2⟩ := hcase i x hx lx
  rw [upd_ne a1]; exact h.hi i x a2 lx
 ·obtain ⟨a1, a2⟩ := hcase i x hx lx
  rw [upd_ne a1]; exact h.ap i x a2 lx
 ·by_cases hi : i = k
  ·subst hi
   rw [h2, if_pos rfl] at hx
   injection hx with hx
   subst hx
   exact ⟨trivial, trivial⟩
  ·rw [h2, if_neg hi] at hx
   obtain ⟨g1, g2⟩ := h.bl i x hx
   refine ⟨XB.ok_agr hA g1, ?_⟩
   rw [upd_ne hi, upd_ne hi]
   exact g2.keep g1 hA rfl
end
end Go.Proofs.YtfilfijammemfaaGreatDoor

/- Closed calls: code is sound; calls; a closed call's answer. Conditions: none. -/
namespace Go.Proofs.YtfilfijammemfaaGreatDoor
open Go Go.RowKit
set_option maxRecDepth 100000
section
variable {P : Program} {w0 : XEnv} {ρ γ : Nat → Nat} {F F' : XFr} {H H' : XHp} {a : Act} {w : World} {o : Oper} {call : XCf}
end
end Go.Proofs.YtfilfijammemfaaGreatDoor

/- Closed calls: calls as a function; a closed call's answer. Conditions: none. -/
namespace Go.Proofs.YtfilfijammemfaaGreatDoor
open Go Go.RowKit
set_option maxRecDepth 100000
end Go.Proofs.YtfilfijammemfaaGreatDoor

/- The closed call of the package's own check of its parts: run by the executor. -/
namespace Go.Proofs.YtfilfijammemfaaGreatDoor
open Go
set_option maxRecDepth 1000000
end Go.Proofs.YtfilfijammemfaaGreatDoor

/- The law WallsAreShells, walked. -/
-- NEWM
namespace Go.Proofs.YtfilfijammemfaaGreatDoor
open Go Go.RowKit
set_option maxRecDepth 100000
end Go.Proofs.YtfilfijammemfaaGreatDoor

/- The law FillingsAreWhole, walked. -/
-- NEWM
namespace Go.Proofs.YtfilfijammemfaaGreatDoor
open Go Go.RowKit
set_option maxRecDepth 100000
end Go.Proofs.YtfilfijammemfaaGreatDoor

/- The stream's filling. -/
-- NEWM
namespace Go.Proofs.YtfilfijammemfaaGreatDoor
open Go Go.RowKit
set_option maxRecDepth 100000
section
variable {P : Program} {N : Nat} {E : Env} {F : Fm} {H : List OB} {K : Fm → List OB → Prop} {Q : Exit → Fm → List OB → Prop}
end
def SzC (c : Cel) : Prop := c.rows.length ≤ 1000000000 ∧ ∀ r ∈ c.rows, r.length ≤ 1000000000
theorem StrC.sz {c : Cel} (h : StrC c) : SzC c := ⟨by have := h.h; omega, fun r hr => by have := h.r r hr; omega⟩
end Go.Proofs.YtfilfijammemfaaGreatDoor

/- Least and LeastOf, by value. -/
-- NEWM
namespace Go.Proofs.YtfilfijammemfaaGreatDoor
open Go Go.RowKit
set_option maxRecDepth 100000
noncomputable def lstF (c : Cel) (q : Int) : Nat → Int
 | 0 => 0
 | n + 1 => if (partF c).any (noLn q (n + 1 : Nat)) = true then lstF c q n else ((n + 1 : Nat) : Int)
theorem noLn_1 {c : Cel} (hc : RCel c) (hne : covL c ≠ []) (q : Int) : noLn q 1 c = false := by
 have h := List.length_pos_iff.2 (lin_ne hc hne q)
 unfold noLn
 rw [decide_eq_false_iff_not, List.length_map]
 omega
theorem any_snd {lp : List (Value × Cel)} {f : Cel → Bool} {L : List Cel} (h : lp.map Prod.snd = L) : (lp.any fun x => f x.2) = L.any f := by
 rw [← h, List.any_map]; rfl
set_option maxHeartbeats 4000000 in
theorem least_r (va : Value) (c : Cel) (q : Int) (most : Nat) (hc : NCel c) (hq : outB q 0 1 = false) (hm : outB most 1 200 = false) : ACalls Tryz.prog 10 [celA va c, .c (I q), .c (I most)] [] fun u H => u = .t [.c (I (lstF c q most)), .c (I 0)] ∧ H = [] := by
 have hm2 : 1 ≤ most ∧ most ≤ 200 := by simp [outB] at hm; omega
 have hpr := prt_r hc hc.r rfl fun p h => h
 replace hc := hc.r
 have hck := check_v va c (by have := hc.h; omega) (fun r hr => by have := (rcel_rows hc r hr).1; omega)
 have hc0 := celF_0.2 hc
 refine acalls_of (N := 33) Tryz.func10 rfl rfl (by simp) fun E hE => ?_
 refine WA ?_
 refine WR ?_
 refine al_ef rfl (ef_call0 false (fun _ => hck) rfl .fn rfl (by decide) (by kernel_rfl) rfl (fun _ => C0 rfl) (by simp)) ?_
 rintro _ _ ⟨_, _, _, ⟨rfl, rfl⟩, hF, hH⟩
 rw [hc0] at hF
 (refine NST hF hH ?_; clear hF hH; rintro rfl rfl)
 refine WE ?_
 refine WA ?_
 refine aw_cond_f rfl ?_
 refine ZZ ?_
 refine WR ?_
 refine al_ef rfl (ef_call0 false (fun _ => out_v q 0 1) rfl .fn rfl (by decide) (by kernel_rfl) rfl (fun _ => C0 rfl) (by simp)) ?_
 rintro _ _ ⟨_, _, _, ⟨rfl, rfl⟩, hF, hH⟩
 rw [hq] at hF
 (refine NST hF hH ?_; clear hF hH; rintro rfl rfl)
 refine WE ?_
 refine aw_cond_f rfl ?_
 refine ZZ ?_
 refine WR ?_
 refine al_ef rfl (ef_call0 false (fun _ => out_v most 1 200) rfl .fn rfl (by decide) (by kernel_rfl) rfl (fun _ => C0 rfl) (by simp)) ?_
 rintro _ _ ⟨_, _, _, ⟨rfl, rfl⟩, hF, hH⟩
 rw [hm] at hF
 (refine NST hF hH ?_; clear hF hH; rintro rfl rfl)
 refine WE ?_
 refine aw_cond_f rfl ?_
 refine ZZ ?_
 refine WR ?_
 refine al_ef rfl (ef_call0 false (fun _ => parts_v va c hc) rfl .fn rfl (by decide) (by kernel_rfl) rfl (fun _ => C0 rfl) (by simp)) ?_
 rintro _ _ ⟨_, _, _, ⟨vp, lp, rfl, hlp, rfl⟩, hF, hH⟩
 (refine NST hF hH ?_; clear hF hH; rintro rfl rfl)
 refine WE ?_
 have hll : lp.length ≤ 1000000000 := by
  have h1 := hpr.n
  rw [← hlp, List.length_map] at h1
  omega
 have hrp : ∀ w d, (w, d) ∈ lp → RCel d := fun w d h => (hpr.r d (by rw [← hlp]; exact List.mem_map_of_mem (f := Prod.snd) h)).1
 refine WA ?_
 refine aw_loopw (fun m F H => ∃ n : Nat, m = n ∧ 1 ≤ n ∧ n ≤ 200 ∧ lstF c q n = lstF c q most ∧ F = [(4, .p 0 0 0), (9, .c (.r vp (cR lp))), (11, .p 1 0 0)] ∧ H = [.box [.c (I q)], .box [.c (I n)]]) ?_ ?_
 ·refine wk_of [some 1, some 2] (fun _ => [(4, .p 0 0 0), (9, .c (.r vp (cR lp))), (11, .p 1 0 0)]) (fun _ => [.box [.c (I q)], .box [.c (I most)]]) (by decide) (ZNL hE) ZCF ZCH (fun _ => ?_)
  exact ⟨most, most, rfl, hm2.1, hm2.2, rfl, rfl, rfl⟩
 rintro m F H ⟨n, hmn, hn1, hn2, hl, rfl, rfl⟩
 obtain ⟨n, rfl⟩ : ∃ k, n = k + 1 := ⟨n - 1, by omega⟩
 have hun : lstF c q (n + 1) = if (partF c).any (noLn q (n + 1 : Nat)) = true then lstF c q n else ((n + 1 : Nat) : Int) := rfl
 have han : (lp.any fun x => noLn q (n + 1 : Nat) x.2) = (partF c).any (noLn q (n + 1 : Nat)) := any_snd hlp
 have h1f : (partF c).any (noLn q 1) = false := by
  rw [← Bool.not_eq_true, List.any_eq_true]
  rintro ⟨d, hd, hd1⟩
  obtain ⟨r1, _, r3⟩ := hpr.r d hd
  rw [noLn_1 r1 r3] at hd1
  cases hd1
 obtain ⟨bb, hbb⟩ : ∃ b, (lp.any fun x => noLn q (n + 1 : Nat) x.2) = b := ⟨_, rfl⟩
 rw [← han, hbb] at hun
 generalize hnn : n + 1 = n1 at *
 have hrpn := hrp
 refine WR ?_
 refine al_ef rfl (ef_call [0, 1] (fun _ => [.box [.c (I q)], .box [.c (I n1)]]) false (fun _ => cont2_v 43 (by kernel_rfl) (noLn q n1) q n1 vp lp hll fun w d hwd => least1_v w d q n1 (hrp w d hwd) (by omega)) rfl .fn rfl (by decide) (by kernel_rfl) rfl ZCH (by decide) ZCH (by simp)) ?_
 rintro F1 H1 ⟨_, _, _, _, ⟨rfl, rfl⟩, hF, hH⟩
 rw [hbb] at hF
 (refine NSU hF hH ?_; clear hF hH; rintro rfl rfl)
 refine WE ?_
 cases bb with
 | true =>
  have hn0 : n ≠ 0 := fun e0 => by
   subst e0
   subst hnn
   rw [show (((0 + 1 : Nat)) : Int) = 1 from rfl, h1f] at han
   rw [show (((0 + 1 : Nat)) : Int) = 1 from rfl, han] at hbb
   cases hbb
  rw [if_pos rfl] at hun
  refine aw_cond_t rfl ?_
  refine WA ?_
  refine wk_of [some 0, some 1] (fun _ => [(4, .p 0 0 0), (9, .c (.r vp (cR lp))), (11, .p 1 0 0)]) (fun _ => [.box [.c (I q)], .box [.c (I (n1 - 1))]]) (by decide) (ZNL hE) ZCF ZCH (fun _ => ?_)
  exact ⟨n, by omega, n, rfl, by omega, by omega, by rw [← hl, hun], rfl, by rw [show ((n1 : Int) - 1) = (n : Int) by omega]⟩
 | false =>
  rw [if_neg (by simp)] at hun
  refine aw_cond_f rfl ?_
  rw [← hl, hun]
  refine ZZ ?_
  refine WA ?_
  exact aret_of (us := [.c (I n1), .c (I 0)]) [] (fun _ => .t [.c (I n1), .c (I 0)]) (fun _ => []) (.tmp rfl (.tmp rfl .nil)) (by decide) (fun i hi => absurd hi (Nat.not_lt_zero i)) (fun g' => .tL (.cons (.c rfl) (.cons (.c rfl) .nil))) (fun _ => .nil) (fun g' => ⟨rfl, rfl⟩)
end Go.Proofs.YtfilfijammemfaaGreatDoor

/- The reference's LeastOf. -/
-- NEWM
namespace Go.Proofs.YtfilfijammemfaaGreatDoor
open Go Go.RowKit
set_option maxRecDepth 100000
set_option maxHeartbeats 4000000 in
theorem leastof_v (va : Value) (c : Cel) (q : Int) (most : Nat) (hc : NCel c) (hm2 : most ≤ 200) : ACalls Tryz.prog 17 [celA va c, .c (I q), .c (I most)] [] fun u H => u = .c (I (lstF c q most)) ∧ H = [] := by
 have hpr := prt_r hc hc.r rfl fun p h => h
 replace hc := hc.r
 refine acalls_of (N := 20) Tryz.func17 rfl rfl (by simp) fun E hE => ?_
 refine WA ?_
 refine WA ?_
 refine aw_loopw (fun m F H => ∃ n : Nat, m = n ∧ n ≤ 200 ∧ lstF c q n = lstF c q most ∧ F = [(3, .p 0 0 0), (4, .p 1 0 0), (7, .p 2 0 0)] ∧ H = [celB va c, .box [.c (I q)], .box [.c (I n)]]) ?_ ?_
 ·refine wk_of [some 0, some 1, some 2] (fun _ => [(3, .p 0 0 0), (4, .p 1 0 0), (7, .p 2 0 0)]) (fun _ => [celB va c, .box [.c (I q)], .box [.c (I most)]]) (by decide) (ZNL hE) ZCF ZCH (fun _ => ?_)
  exact ⟨most, most, rfl, hm2, rfl, rfl, rfl⟩
 rintro m F H ⟨n1, hmn, hn2, hl, rfl, rfl⟩
 refine WA ?_
 refine aw_if rfl (fun hlt => ?_) (fun hge => ?_)
 ·obtain ⟨n, hnn⟩ : ∃ k, n1 = k + 1 := ⟨n1 - 1, by omega⟩
  obtain ⟨bb, hbb⟩ : ∃ b, (partF c).any (noLn q n1) = b := ⟨_, rfl⟩
  have hun : lstF c q n1 = if bb = true then lstF c q n else (n1 : Int) := by rw [← hbb, hnn]; rfl
  refine WR ?_
  refine al_ef rfl (ef_call0 false (fun _ => partsof_v va c hc) rfl .fn rfl (by decide) (by kernel_rfl) rfl (fun _ => C0 rfl) (by simp)) ?_
  rintro _ _ ⟨_, _, _, ⟨vp, lp, rfl, hlp, rfl⟩, hF, hH⟩
  (refine NST hF hH ?_; clear hF hH; rintro rfl rfl)
  have hll : lp.length ≤ 1000000000 := by
   have h1 := hpr.n
   rw [← hlp, List.length_map] at h1
   omega
  have hrp : ∀ w d, (w, d) ∈ lp → RCel d := fun w d h => (hpr.r d (by rw [← hlp]; exact List.mem_map_of_mem (f := Prod.snd) h)).1
  have han : (lp.any fun x => noLn q n1 x.2) = bb := (any_snd hlp).trans hbb
  refine WO ?_
  refine al_ef rfl (ef_call [1, 2] (fun _ => [.box [.c (I q)], .box [.c (I n1)]]) false (fun _ => cont2_v 61 (by kernel_rfl) (noLn q n1) q n1 vp lp hll fun w d hwd => leastof1_v w d q n1 (hrp w d hwd) (by omega)) rfl .fn rfl (by decide) (by kernel_rfl) rfl ZCH (by decide) ZCH (by simp)) ?_
  rintro F1 H1 ⟨_, _, _, _, ⟨rfl, rfl⟩, hF, hH⟩
  rw [han] at hF
  (refine NSU hF hH ?_; clear hF hH; rintro rfl rfl)
  refine WE ?_
  cases bb with
  | false =>
   rw [if_neg (by simp)] at hun
   refine aw_cond_t rfl ?_
   rw [← hl, hun]
   refine WA ?_
   exact aret_1 [] _ rfl rfl rfl (by decide) (ZNK rfl) (fun _ => .nil) ⟨rfl, rfl⟩
  | true =>
   rw [if_pos rfl] at hun
   refine aw_cond_f rfl ?_
   refine ZZ ?_
   refine WA ?_
   refine WA ?_
   refine WA ?_
   refine wk_of [some 0, some 1, some 3] (fun _ => [(3, .p 0 0 0), (4, .p 1 0 0), (7, .p 2 0 0)]) (fun _ => [celB va c, .box [.c (I q)], .box [.c (I (n1 - 1))]]) (by decide) (ZNL hE) ZCF ZCH (fun _ => ?_)
   exact ⟨n, by omega, n, rfl, by omega, by rw [← hl, hun], rfl, by rw [show ((n1 : Int) - 1) = (n : Int) by omega]⟩
 have h0 : n1 = 0 := by omega
 subst h0
 rw [← hl]
 refine ZZ ?_
 refine WA ?_
 exact aret_1 [] _ rfl rfl rfl (by decide) (ZNK rfl) (fun _ => .nil) ⟨rfl, rfl⟩
end Go.Proofs.YtfilfijammemfaaGreatDoor

/- Least of any arguments; the stream's style of lines. -/
-- NEWM
namespace Go.Proofs.YtfilfijammemfaaGreatDoor
open Go Go.RowKit
set_option maxRecDepth 100000
noncomputable def leaF (c : Cel) (q most : Int) : Int × Int := if celF c ≠ 0 then (0, celF c) else if outB q 0 1 = true then (0, 4) else if outB most 1 200 = true then (0, 1) else (lstF c q most.toNat, 0)
theorem least_g (va : Value) (c : Cel) (q most : Int) (hz : SzC c) (hn : RCel c → NCel c) : ACalls Tryz.prog 10 [celA va c, .c (I q), .c (I most)] [] fun u H => u = .t [.c (I (leaF c q most).1), .c (I (leaF c q most).2)] ∧ H = [] := by
 have hck := check_v va c hz.1 hz.2
 unfold leaF
 by_cases h1 : celF c = 0
 ·rw [if_neg (by simp [h1])]
  obtain ⟨b1, hb1⟩ : ∃ b, outB q 0 1 = b := ⟨_, rfl⟩
  obtain ⟨b2, hb2⟩ : ∃ b, outB most 1 200 = b := ⟨_, rfl⟩
  rw [hb1, hb2]
  cases b1 with
  | true =>
   rw [if_pos rfl]
   refine acalls_of (N := 33) Tryz.func10 rfl rfl (by simp) fun E hE => ?_
   refine WA ?_
   refine WR ?_
   refine al_ef rfl (ef_call0 false (fun _ => hck) rfl .fn rfl (by decide) (by kernel_rfl) rfl (fun _ => C0 rfl) (by simp)) ?_
   rintro _ _ ⟨_, _, _, ⟨rfl, rfl⟩, hF, hH⟩
   rw [h1] at hF
   (refine NST hF hH ?_; clear hF hH; rintro rfl rfl)
   refine WE ?_
   refine WA ?_
   refine aw_cond_f rfl ?_
   refine ZZ ?_
   refine WR ?_
   refine al_ef rfl (ef_call0 false (fun _ => out_v q 0 1) rfl .fn rfl (by decide) (by kernel_rfl) rfl (fun _ => C0 rfl) (by simp)) ?_
   rintro _ _ ⟨_, _, _, ⟨rfl, rfl⟩, hF, hH⟩
   rw [hb1] at hF
   (refine NST hF hH ?_; clear hF hH; rintro rfl rfl)
   refine WE ?_
   refine aw_cond_t rfl ?_
   refine WA ?_
   exact aret_of (us := [.c (I 0), .c (I 4)]) [] (fun _ => .t [.c (I 0), .c (I 4)]) (fun _ => []) (.tmp rfl (.tmp rfl .nil)) (by decide) (fun i hi => absurd hi (Nat.not_lt_zero i)) (fun g' => .tL (.cons (.c rfl) (.cons (.c rfl) .nil))) (fun _ => .nil) (fun g' => ⟨rfl, rfl⟩)
  | false =>
   rw [if_neg (by simp)]
   cases b2 with
   | true =>
    rw [if_pos rfl]
    refine acalls_of (N := 33) Tryz.func10 rfl rfl (by simp) fun E hE => ?_
    refine WA ?_
    refine WR ?_
    refine al_ef rfl (ef_call0 false (fun _ => hck) rfl .fn rfl (by decide) (by kernel_rfl) rfl (fun _ => C0 rfl) (by simp)) ?_
    rintro _ _ ⟨_, _, _, ⟨rfl, rfl⟩, hF, hH⟩
    rw [h1] at hF
    (refine NST hF hH ?_; clear hF hH; rintro rfl rfl)
    refine WE ?_
    refine WA ?_
    refine aw_cond_f rfl ?_
    refine ZZ ?_
    refine WR ?_
    refine al_ef rfl (ef_call0 false (fun _ => out_v q 0 1) rfl .fn rfl (by decide) (by kernel_rfl) rfl (fun _ => C0 rfl) (by simp)) ?_
    rintro _ _ ⟨_, _, _, ⟨rfl, rfl⟩, hF, hH⟩
    rw [hb1] at hF
    (refine NST hF hH ?_; clear hF hH; rintro rfl rfl)
    refine WE ?_
    refine aw_cond_f rfl ?_
    refine ZZ ?_
    refine WR ?_
    refine al_ef rfl (ef_call0 false (fun _ => out_v most 1 200) rfl .fn rfl (by decide) (by kernel_rfl) rfl (fun _ => C0 rfl) (by simp)) ?_
    rintro _ _ ⟨_, _, _, ⟨rfl, rfl⟩, hF, hH⟩
    rw [hb2] at hF
    (refine NST hF hH ?_; clear hF hH; rintro rfl rfl)
    refine WE ?_
    refine aw_cond_t rfl ?_
    refine WA ?_
    exact aret_of (us := [.c (I 0), .c (I 1)]) [] (fun _ => .t [.c (I 0), .c (I 1)]) (fun _ => []) (.tmp rfl (.tmp rfl .nil)) (by decide) (fun i hi => absurd hi (Nat.not_lt_zero i)) (fun g' => .tL (.cons (.c rfl) (.cons (.c rfl) .nil))) (fun _ => .nil) (fun g' => ⟨rfl, rfl⟩)
   | false =>
    rw [if_neg (by simp)]
    obtain ⟨mn, rfl⟩ : ∃ k : Nat, most = (k : Int) := ⟨most.toNat, by simp [outB] at hb2; omega⟩
    exact least_r va c q mn (hn (celF_0.1 h1)) hb1 hb2
 ·rw [if_pos h1]
  obtain ⟨e, he⟩ : ∃ e, celF c = e := ⟨_, rfl⟩
  rw [he] at h1 ⊢
  refine acalls_of (N := 33) Tryz.func10 rfl rfl (by simp) fun E hE => ?_
  refine WA ?_
  refine WR ?_
  refine al_ef rfl (ef_call0 false (fun _ => hck) rfl .fn rfl (by decide) (by kernel_rfl) rfl (fun _ => C0 rfl) (by simp)) ?_
  rintro _ _ ⟨_, _, _, ⟨rfl, rfl⟩, hF, hH⟩
  rw [he] at hF
  (refine NST hF hH ?_; clear hF hH; rintro rfl rfl)
  refine WE ?_
  refine WA ?_
  refine aw_cond_t rfl ?_
  refine WA ?_
  exact aret_of (us := [.c (I 0), .c (I e)]) [] (fun _ => .t [.c (I 0), .c (I e)]) (fun _ => []) (.tmp rfl (.tmp rfl .nil)) (by decide) (fun i hi => absurd hi (Nat.not_lt_zero i)) (fun g' => .tL (.cons (.c rfl) (.cons (.c rfl) .nil))) (fun _ => .nil) (fun g' => ⟨rfl, rfl⟩)
end Go.Proofs.YtfilfijammemfaaGreatDoor

/- The stream's style of lines. -/
-- NEWM
namespace Go.Proofs.YtfilfijammemfaaGreatDoor
open Go Go.RowKit
set_option maxRecDepth 100000
set_option maxHeartbeats 4000000 in
theorem linestyle_v (v : Value) (zs : List Int) (a : Int) (hs : StrOk zs) (h0 : 0 ≤ a) (h1 : a ≤ 700000000) : ACalls Tryz.prog 7 [.p 0 0 0] [strm v zs a] fun u H => ∃ q ev ph a' : Int, u = .t [.c (I q), .c (I ev), .c (I ph)] ∧ H = [strm v zs a'] ∧ a ≤ a' ∧ a' ≤ a + 20 ∧ in64 q ∧ in64 ev ∧ in64 ph := by
 refine acalls_of (N := 34) Tryz.func7 rfl rfl (by simp) fun E hE => ?_
 refine WA ?_
 refine WR ?_
 refine al_ef rfl (ef_callm false (fun _ => next_a 2 _ _ _ hs (by omega) (by omega) (by simp only [in64]; omega)) rfl .fn rfl (by decide) (by kernel_rfl) rfl rfl (fun _g => .cons (.p rfl) (.cons (.c rfl) .nil)) (fun _g => .cons (.c rfl) (.cons (.c rfl) .nil)) (by simp)) ?_
 rintro F1 H1 ⟨_, _, _, _, ⟨q, rfl, hq, hr1q, hr2q⟩, hF, hH⟩
 injection hq with hq1 hq2; subst hq1; subst hq2
 (refine NST hF hH ?_; clear hF hH; rintro rfl rfl)
 refine WO ?_
 refine al_ef rfl (ef_callm true (fun _ => pick_a [1, 1, 2, 3] _ _ _ _ hs (by omega) (by omega) (by simp) (by simp)) rfl .fn rfl (by decide) (by kernel_rfl) rfl rfl (fun _g => .cons (.p rfl) (.cons (.frz rfl rfl rfl rfl rfl) .nil)) (fun _g => .cons (.c rfl) (.cons (.c rfl) .nil)) (fun _ _ _ _ ⟨_, hu, hH, _⟩ => by rw [hu, hH]; exact ⟨.c (.inl trivial), strm_flat (.inr ⟨0, _, rfl, by simp⟩)⟩)) ?_
 rintro F1 H1 ⟨_, _, _, _, ⟨ev, rfl, hq, hrm⟩, hF, hH⟩
 injection hq with hq1 hq2; subst hq1; subst hq2
 (refine NST hF hH ?_; clear hF hH; rintro rfl rfl)
 simp only [List.mem_cons, List.not_mem_nil, or_false] at hrm
 have hbev : in64 ev := by simp only [in64]; omega
 clear hrm
 refine WO ?_
 refine al_ef rfl (ef_callm true (fun _ => pick_a [0, 0, 1, -1, 5] _ _ _ _ hs (by omega) (by omega) (by simp) (by simp)) rfl .fn rfl (by decide) (by kernel_rfl) rfl rfl (fun _g => .cons (.p rfl) (.cons (.frz rfl rfl rfl rfl rfl) .nil)) (fun _g => .cons (.c rfl) (.cons (.c rfl) .nil)) (fun _ _ _ _ ⟨_, hu, hH, _⟩ => by rw [hu, hH]; exact ⟨.c (.inl trivial), strm_flat (.inr ⟨0, _, rfl, by simp⟩)⟩)) ?_
 rintro F1 H1 ⟨_, _, _, _, ⟨ph, rfl, hq, hrm⟩, hF, hH⟩
 injection hq with hq1 hq2; subst hq1; subst hq2
 (refine NST hF hH ?_; clear hF hH; rintro rfl rfl)
 simp only [List.mem_cons, List.not_mem_nil, or_false] at hrm
 have hbph : in64 ph := by simp only [in64]; omega
 clear hrm
 refine WE ?_
 have hbq : in64 q := by have := hr2q (by omega); simp only [in64]; omega
 refine WR ?_
 refine al_ef rfl (ef_callm false (fun _ => flip_a 12 _ _ _ hs (by omega) (by omega) (by simp only [in64]; omega)) rfl .fn rfl (by decide) (by kernel_rfl) rfl rfl (fun _g => .cons (.p rfl) (.cons (.c rfl) .nil)) (fun _g => .cons (.c rfl) (.cons (.c rfl) .nil)) (by simp)) ?_
 rintro F1 H1 ⟨_, _, _, _, ⟨bb, rfl, hq⟩, hF, hH⟩
 injection hq with hq1 hq2; subst hq1; subst hq2
 (refine NST hF hH ?_; clear hF hH; rintro rfl rfl)
 refine WE ?_
 refine aw_cond rfl (fun _ => ?_) (fun _ => ?_)
 ·refine WR ?_
  refine al_ef rfl (ef_callm false (fun _ => next_a 3 _ _ _ hs (by omega) (by omega) (by simp only [in64]; omega)) rfl .fn rfl (by decide) (by kernel_rfl) rfl rfl (fun _g => .cons (.p rfl) (.cons (.c rfl) .nil)) (fun _g => .cons (.c rfl) (.cons (.c rfl) .nil)) (by simp)) ?_
  rintro F1 H1 ⟨_, _, _, _, ⟨r, rfl, hq, hr1r, hr2r⟩, hF, hH⟩
  injection hq with hq1 hq2; subst hq1; subst hq2
  (refine NST hF hH ?_; clear hF hH; rintro rfl rfl)
  refine WE ?_
  refine WA ?_
  refine aw_if rfl (fun _ => ?_) (fun _ => ?_)
  ·refine WR ?_
   refine al_ef rfl (ef_callm true (fun _ => pick_a [-1, 2] _ _ _ _ hs (by omega) (by omega) (by simp) (by simp)) rfl .fn rfl (by decide) (by kernel_rfl) rfl rfl (fun _g => .cons (.p rfl) (.cons (.frz rfl rfl rfl rfl rfl) .nil)) (fun _g => .cons (.c rfl) (.cons (.c rfl) .nil)) (fun _ _ _ _ ⟨_, hu, hH, _⟩ => by rw [hu, hH]; exact ⟨.c (.inl trivial), strm_flat (.inr ⟨0, _, rfl, by simp⟩)⟩)) ?_
   rintro F1 H1 ⟨_, _, _, _, ⟨q2, rfl, hq, hrm⟩, hF, hH⟩
   injection hq with hq1 hq2; subst hq1; subst hq2
   (refine NST hF hH ?_; clear hF hH; rintro rfl rfl)
   simp only [List.mem_cons, List.not_mem_nil, or_false] at hrm
   have hbq2 : in64 q2 := by simp only [in64]; omega
   clear hrm
   refine WE ?_
   refine WA ?_
   exact aret_of (us := [.c (I q2), .c (I ev), .c (I ph)]) [some 0] (fun _ => .t [.c (I q2), .c (I ev), .c (I ph)]) (fun _ => [strm v zs _]) (.tmp rfl (.tmp rfl (.tmp rfl .nil))) (by decide) (ZNK rfl) (fun g' => .tL (.cons (.c rfl) (.cons (.c rfl) (.cons (.c rfl) .nil)))) ZCH (fun g' => ⟨q2, ev, ph, _, rfl, rfl, by omega, by omega, by assumption, by assumption, by assumption⟩)
  ·refine ZZ ?_
   refine WA ?_
   refine aw_if rfl (fun _ => ?_) (fun _ => ?_)
   ·refine WR ?_
    refine al_ef rfl (ef_callm false (fun _ => odd_a 1 200 _ _ _ hs (by omega) (by omega) (by omega) (by omega) (by omega) (by omega)) rfl .fn rfl (by decide) (by kernel_rfl) rfl rfl (fun _g => .cons (.p rfl) (.cons (.c rfl) (.cons (.c rfl) .nil))) (fun _g => .cons (.c rfl) (.cons (.c rfl) .nil)) (by simp)) ?_
    rintro F1 H1 ⟨_, _, _, _, ⟨e2, ae2, rfl, hq, ha1e2, ha2e2, hbe2⟩, hF, hH⟩
    injection hq with hq1 hq2; subst hq1; subst hq2
    (refine NST hF hH ?_; clear hF hH; rintro rfl rfl)
    refine WE ?_
    refine WA ?_
    exact aret_of (us := [.c (I q), .c (I e2), .c (I ph)]) [some 0] (fun _ => .t [.c (I q), .c (I e2), .c (I ph)]) (fun _ => [strm v zs _]) (.tmp rfl (.tmp rfl (.tmp rfl .nil))) (by decide) (ZNK rfl) (fun g' => .tL (.cons (.c rfl) (.cons (.c rfl) (.cons (.c rfl) .nil)))) ZCH (fun g' => ⟨q, e2, ph, _, rfl, rfl, by omega, by omega, by assumption, by assumption, by assumption⟩)
   ·refine ZZ ?_
    refine WR ?_
    refine al_ef rfl (ef_callm false (fun _ => odd_a (-1000) 1000 _ _ _ hs (by omega) (by omega) (by omega) (by omega) (by omega) (by omega)) rfl .fn rfl (by decide) (by kernel_rfl) rfl rfl (fun _g => .cons (.p rfl) (.cons (.c rfl) (.cons (.c rfl) .nil))) (fun _g => .cons (.c rfl) (.cons (.c rfl) .nil)) (by simp)) ?_
    rintro F1 H1 ⟨_, _, _, _, ⟨p2, ap2, rfl, hq, ha1p2, ha2p2, hbp2⟩, hF, hH⟩
    injection hq with hq1 hq2; subst hq1; subst hq2
    (refine NST hF hH ?_; clear hF hH; rintro rfl rfl)
    refine WE ?_
    refine WA ?_
    exact aret_of (us := [.c (I q), .c (I ev), .c (I p2)]) [some 0] (fun _ => .t [.c (I q), .c (I ev), .c (I p2)]) (fun _ => [strm v zs _]) (.tmp rfl (.tmp rfl (.tmp rfl .nil))) (by decide) (ZNK rfl) (fun g' => .tL (.cons (.c rfl) (.cons (.c rfl) (.cons (.c rfl) .nil)))) ZCH (fun g' => ⟨q, ev, p2, _, rfl, rfl, by omega, by omega, by assumption, by assumption, by assumption⟩)
 ·refine ZZ ?_
  refine WA ?_
  exact aret_of (us := [.c (I q), .c (I ev), .c (I ph)]) [some 0] (fun _ => .t [.c (I q), .c (I ev), .c (I ph)]) (fun _ => [strm v zs _]) (.tmp rfl (.tmp rfl (.tmp rfl .nil))) (by decide) (ZNK rfl) (fun g' => .tL (.cons (.c rfl) (.cons (.c rfl) (.cons (.c rfl) .nil)))) ZCH (fun g' => ⟨q, ev, ph, _, rfl, rfl, by omega, by omega, by assumption, by assumption, by assumption⟩)
end Go.Proofs.YtfilfijammemfaaGreatDoor
