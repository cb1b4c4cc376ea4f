/- The stream's filling. -/
import Derived.Test.YtniolldgidgffaaGreatDoorQbw
import Derived.Maps.RangeRun
import Derived.Test.YtniolldgidgffaaGreatDoorProg
import Derived.Test.YtniolldgidgffaaGreatDoorQao
import Derived.Test.YtniolldgidgffaaGreatDoorQbm
import Derived.Test.YtniolldgidgffaaGreatDoorQar
import Derived.Test.YtniolldgidgffaaGreatDoorQbv
set_option linter.unusedSimpArgs false
set_option linter.unusedVariables false
/- Closed calls: walks through maps of several entries, in any order, where each round leaves what was there. Conditions: none. -/
namespace Go.Proofs.YtniolldgidgffaaGreatDoor
open Go Go.RowKit
set_option maxRecDepth 100000
def XT.sub {α : Type} (f : α → α → Bool) : XT α → XT α → Bool
 | .nil, _ => true
 | .node l v r, .node l' v' r' => (match v, v' with
  | none, _ => true
  | some x, some y => f x y
  | some _, none => false) && l.sub f l' && r.sub f r'
 | .node _ _ _, .nil => false
def pin (X : Nat → Option Obj) (B : Nat) (ob : Obj) : Nat → Option Obj := fun i => if i = B then some ob else X i
section
variable {P : Program} {N : Nat} {E : XEnv} {ρ γ : Nat → Nat} {F : XFr} {H Hs H1 : XHp} {a : Act} {w w' : World} {bi : Nat} {z : XB}
theorem XR.aside {ob : Obj} (hR : XR N E ρ γ F Hs a w) (hz : Hs.get bi = some z) (hl : z.live = true) (h1 : ∀ i, H1.get i = if i = bi then some .dead else Hs.get i) : XR N ⟨E.w, pin E.X (ρ bi) ob, E.own⟩ ρ γ F H1 a (putBlk w (ρ bi) ob) := by
 have hA : Agr Hs ρ γ H1 ρ γ := fun b hb => by
  refine ⟨?_, rfl, rfl⟩
  rw [h1]; split
  ·rfl
  ·exact hb
 have hX := hR.hp.ap bi z hz hl
 obtain ⟨hlo, hhi⟩ := hR.hp.hi bi z hz hl
 have hcase : ∀ i o, H1.get i = some o → o.live = true → i ≠ bi ∧ Hs.get i = some o := fun i o hi lo => by
  rw [h1] at hi
  split at hi
  ·injection hi with hi; subst hi; cases lo
  ·rename_i e; exact ⟨e, hi⟩
 have hne : ∀ i o, i ≠ bi → Hs.get i = some o → o.live = true → ρ i ≠ ρ bi := fun i o hi ho lo e => hi (hR.hp.nd i bi o z ho hz lo hl e)
 have hp : XH ⟨E.w, pin E.X (ρ bi) ob, E.own⟩ ρ γ H1 (putBlk w (ρ bi) ob) := by
  refine ⟨fun i j o o' hi hj lo lo' e => ?_, fun i o hi lo => ?_, fun i o hi lo => ?_, fun i o hi => ?_, ⟨?_, fun B x hB => ?_⟩⟩
  ·exact hR.hp.nd i j o o' (hcase i o hi lo).2 (hcase j o' hj lo').2 lo lo' e
  ·have := hR.hp.hi i o (hcase i o hi lo).2 lo
   exact ⟨this.1, by simpa [putBlk] using this.2⟩
  ·obtain ⟨g1, g2⟩ := hcase i o hi lo
   show pin E.X (ρ bi) ob (ρ i) = none
   unfold pin
   rw [if_neg (hne i o g1 g2 lo)]
   exact hR.hp.ap i o g2 lo
  ·rw [h1] at hi
   split at hi
   ·injection hi with hi; subst hi; exact ⟨trivial, trivial⟩
   ·rename_i e
    obtain ⟨g1, g2⟩ := hR.hp.bl i o hi
    refine ⟨XB.ok_agr hA g1, ?_⟩
    cases hlo : o.live with
    | false => cases o <;> first | trivial | (cases hlo)
    | true => exact g2.keep g1 hA (by rw [putBlk_get, if_neg (fun h => hne i o e hi hlo h.1)])
  ·have hst := hR.hp.st
   refine ⟨hst.os, hst.tape, hst.output, by simpa [putBlk] using hst.size, fun i hi hn => ?_, hst.drawn⟩
   rw [putBlk_get, if_neg (by rintro ⟨e, _⟩; have h0 : i < E.w.heap.size := hi; omega)]
   exact hst.block i hi hn
  ·rw [putBlk_get]
   have hB' : pin E.X (ρ bi) ob B = some x := hB
   unfold pin at hB'
   split at hB'
   ·rename_i e
    rw [if_pos ⟨e, by omega⟩]
    exact hB'
   ·rename_i e
    rw [if_neg (fun h => e h.1)]
    exact hR.hp.st.fx B x hB'
 refine ⟨⟨hR.df.1, hR.df.2.1, fun D hD => ?_⟩, hR.sz, fun i x hi => ?_, hp⟩
 ·obtain ⟨d1, d2⟩ := hR.df.2.2 D hD
  refine ⟨?_, d2⟩
  show pin E.X (ρ bi) ob D = _
  unfold pin
  rw [if_neg (fun e => by rw [e, hX] at d1; cases d1)]
  exact d1
 ·obtain ⟨g1, g2⟩ := hR.fr i x hi
  exact ⟨g1, hA.ok g2⟩
end
section
variable {P : Program} {N m n : Nat} {F : XFr} {H : XHp} {call : XCf} {yh : XYh} {rd : Bool} {Fe : Fence}
end
end Go.Proofs.YtniolldgidgffaaGreatDoor

/- Closed calls: code, ranges over functions. Conditions: none. -/
namespace Go.Proofs.YtniolldgidgffaaGreatDoor
open Go Go.RowKit
set_option maxRecDepth 100000
section
variable {P : Program} {N : Nat} {w0 : XEnv} {ρ γ : Nat → Nat} {F F' : XFr} {H H' : XHp} {a : Act} {w : World} {o : Oper} {call : XCf}
theorem XH.pin {E : XEnv} {own : List Nat} (h : XH E ρ γ H w) (ob : Obj) : XH ⟨E.w, pin E.X w.heap.size ob, own⟩ ρ γ H (w.alloc ob) := by
 have hst := h.st.alloc ob
 refine ⟨h.nd, fun i o ho lo => ?_, fun i o ho lo => ?_, fun i o ho => ?_, ⟨hst.toStp, fun B x hB => ?_⟩⟩
 ·have := h.hi i o ho lo
  exact ⟨this.1, by simp; omega⟩
 ·have := (h.hi i o ho lo).2
  simp only [Go.Proofs.YtniolldgidgffaaGreatDoor.pin]
  rw [if_neg (by omega)]
  exact h.ap i o ho lo
 ·obtain ⟨h1, h2⟩ := h.bl i o ho
  refine ⟨h1, ?_⟩
  cases hl : o.live with
  | false => cases o <;> first | trivial | (cases hl)
  | true => exact h2.keep h1 (Agr.refl _ _ _) (Below.heap_alloc w ob _ (h.hi i o ho hl).2)
 ·simp only [Go.Proofs.YtniolldgidgffaaGreatDoor.pin] at hB
  split at hB
  ·rename_i e
   injection hB with hB
   subst hB
   subst e
   exact heap_alloc_new w ob
  ·exact hst.fx B x hB
theorem XH.name {k : Nat} (h : XH w0 ρ γ H w) (hn : xnew H k .dead = some H') (l : Nat) : XH w0 (upd ρ k l) (upd γ k 0) H' w ∧ Agr H ρ γ H' (upd ρ k l) (upd γ k 0) := by
 obtain ⟨h1, h2⟩ := xnew_get hn
 have hA := agr_new (ρ := ρ) (γ := γ) hn l 0
 have hcase : ∀ i x, H'.get i = some x → x.live = true → i ≠ k ∧ H.get i = some x := fun i x hi lx => by
  rw [h2] at hi
  split at hi
  ·injection hi with hi; subst hi; cases lx
  ·rename_i e; exact ⟨e, hi⟩
 refine ⟨⟨fun i j x y hx hy lx ly e => ?_, fun i x hx lx => ?_, fun i x hx lx => ?_, fun i x hx => ?_, h.st⟩, hA⟩
 ·obtain ⟨a1, a2⟩ := hcase i x hx lx
  obtain ⟨b1, b2⟩ := hcase j y hy ly
  rw [upd_ne a1, upd_ne b1] at e
  exact h.nd i j x y a2 b2 lx ly e
 ·obtain ⟨a1, a2⟩ := hcase i x hx lx
  rw [upd_ne a1]; exact h.hi i x a2 lx
 ·obtain ⟨a1, a2⟩ := hcase i x hx lx
  rw [upd_ne a1]; exact h.ap i x a2 lx
 ·by_cases hi : i = k
  ·subst hi
   rw [h2, if_pos rfl] at hx
   injection hx with hx
   subst hx
   exact ⟨trivial, trivial⟩
  ·rw [h2, if_neg hi] at hx
   obtain ⟨g1, g2⟩ := h.bl i x hx
   refine ⟨XB.ok_agr hA g1, ?_⟩
   rw [upd_ne hi, upd_ne hi]
   exact g2.keep g1 hA rfl
end
end Go.Proofs.YtniolldgidgffaaGreatDoor

/- Closed calls: code is sound; calls; a closed call's answer. Conditions: none. -/
namespace Go.Proofs.YtniolldgidgffaaGreatDoor
open Go Go.RowKit
set_option maxRecDepth 100000
section
variable {P : Program} {w0 : XEnv} {ρ γ : Nat → Nat} {F F' : XFr} {H H' : XHp} {a : Act} {w : World} {o : Oper} {call : XCf}
end
end Go.Proofs.YtniolldgidgffaaGreatDoor

/- Closed calls: calls as a function; a closed call's answer. Conditions: none. -/
namespace Go.Proofs.YtniolldgidgffaaGreatDoor
open Go Go.RowKit
set_option maxRecDepth 100000
end Go.Proofs.YtniolldgidgffaaGreatDoor

/- The closed call of the package's own check of its parts: run by the executor. -/
namespace Go.Proofs.YtniolldgidgffaaGreatDoor
open Go
set_option maxRecDepth 1000000
end Go.Proofs.YtniolldgidgffaaGreatDoor

/- The law WallsAreShells, walked. -/
-- NEWM
namespace Go.Proofs.YtniolldgidgffaaGreatDoor
open Go Go.RowKit
set_option maxRecDepth 100000
end Go.Proofs.YtniolldgidgffaaGreatDoor

/- The law FillingsAreWhole, walked. -/
-- NEWM
namespace Go.Proofs.YtniolldgidgffaaGreatDoor
open Go Go.RowKit
set_option maxRecDepth 100000
theorem fil_rows {f : Fil} (h : FilOk f) : ∀ q ∈ f.lv ++ [f.s, f.p], q.2.rows.length ≤ 1000000000 ∧ ∀ r ∈ q.2.rows, r.length ≤ 1000000000 := fun q hq => by
 have hr : RCel q.2 := by
  rcases List.mem_append.1 hq with hq | hq
  ·exact h.r q hq
  ·simp only [List.mem_cons, List.not_mem_nil, or_false] at hq
   rcases hq with rfl | rfl
   ·exact h.s
   ·exact h.p
 have h1 := hr.h
 have h2 := hr.w
 exact ⟨by omega, fun r hq => by rw [(hr.row r hq).1]; omega⟩
end Go.Proofs.YtniolldgidgffaaGreatDoor

/- The stream's filling. -/
-- NEWM
namespace Go.Proofs.YtniolldgidgffaaGreatDoor
open Go Go.RowKit
set_option maxRecDepth 100000
section
variable {P : Program} {N : Nat} {E : Env} {F : Fm} {H : List OB} {K : Fm → List OB → Prop} {Q : Exit → Fm → List OB → Prop}
theorem wk_thawbox {b q j : Nat} {l : List AV} {x : AV} {v : Value} (hb : H[b]? = some (.box l)) (hj : l[j]? = some (.c (.s v))) (hq : H[q]? = some (.eqv x v)) (h : K F (H.set b (.box (l.set j x)))) : Wk N E F H K := fun S ρ a w hR => by
 have he : Ex ρ H ρ (H.set b (.box (l.set j x))) := Ex.set hb rfl rfl (fun _ => rfl)
 obtain ⟨hx1, hx2⟩ := hR.hp.blk q _ hq
 obtain ⟨B, t, h1, h2, h3⟩ := hR.hp.blk b _ hb
 have hblt : b < H.length := (List.getElem?_eq_some_iff.1 hb).1
 have hone : v.oneCell' = true := (h3 _ (List.mem_of_getElem? hj)).2
 have hp : RH w S ρ (H.set b (.box (l.set j x))) := by
  refine ⟨by simp [hR.hp.len], hR.hp.nd, hR.hp.ap, hR.hp.lt, hR.hp.sS, fun i o ho => ?_⟩
  rw [List.getElem?_set] at ho
  split at ho
  ·rename_i hbi
   subst hbi
   injection ho with ho
   subst ho
   refine ⟨B, t, h1, ?_, fun y hy => ?_⟩
   ·rw [h2]
    congr 3
    refine List.ext_getElem? fun i => ?_
    rw [List.getElem?_map, List.getElem?_map, List.getElem?_set]
    by_cases hij : j = i
    ·subst hij
     have hjl : j < l.length := (List.getElem?_eq_some_iff.1 hj).1
     rw [if_pos rfl, if_pos hjl, hj]
     simp only [Option.map_some, Option.some.injEq]
     rw [hx2.den_ex he, hx1]
     rfl
    ·rw [if_neg hij]
     cases hli : l[i]? with
     | none => rfl
     | some y =>
      simp only [Option.map_some, Option.some.injEq]
      exact ((h3 y (List.mem_of_getElem? hli)).1.den_ex he).symm
   ·rcases List.mem_or_eq_of_mem_set hy with hy | rfl
    ·obtain ⟨h4, h5⟩ := h3 y hy
     exact ⟨h4.ex he Mo.refl, by rw [h4.den_ex he]; exact h5⟩
    ·exact ⟨hx2.ex he Mo.refl, by rw [hx2.den_ex he, hx1]; exact hone⟩
  ·exact (hR.hp.blk i o ho).ex he Mo.refl (fun _ _ => rfl)
 exact ⟨S, ρ, _, _, h, hR.ex he Mo.refl hp hR.st hR.nw hR.nS⟩
theorem aw_thawbox {b q j : Nat} {l : List AV} {x : AV} {v : Value} {c : Code} (hb : H[b]? = some (.box l)) (hj : l[j]? = some (.c (.s v))) (hq : H[q]? = some (.eqv x v)) (h : AW P N E c F (H.set b (.box (l.set j x))) Q) : AW P N E c F H Q :=
 aw_wk (wk_thawbox (K := fun F' H' => F' = F ∧ H' = H.set b (.box (l.set j x))) hb hj hq ⟨rfl, rfl⟩) fun F' H' ⟨h1, h2⟩ => by subst h1; subst h2; exact h
end
def SzC (c : Cel) : Prop := c.rows.length ≤ 1000000000 ∧ ∀ r ∈ c.rows, r.length ≤ 1000000000
theorem StrC.sz {c : Cel} (h : StrC c) : SzC c := ⟨by have := h.h; omega, fun r hr => by have := h.r r hr; omega⟩
abbrev filZ : OB := .box [.c (.r (.slice none 0 0) []), .c (I 0), .c (I 0), .c (I 0), .c (.r (.slice none 0 0) []), .c (I 0), .c (I 0), .c (I 0), .c (.r (.slice none 0 0) [])]
set_option maxHeartbeats 4000000 in
theorem afilling_v (v : Value) (zs : List Int) (a : Int) (hs : StrOk zs) (h0 : 0 ≤ a) (h1 : a ≤ 500000000) : ACalls Tryz.prog 35 [.p 0 0 0] [strm v zs a] fun u H => ∃ (f : Fil) (a' : Int), u = .a ((filR f).map .c) ∧ H = [strm v zs a'] ∧ a ≤ a' ∧ a' ≤ a + 30000 ∧ f.lv.length ≤ 100 ∧ ∀ q ∈ f.lv ++ [f.s, f.p], SzC q.2 := by
 refine acalls_of (N := 44) Tryz.func35 rfl rfl (by simp) fun E hE => ?_
 refine WA ?_
 refine WR ?_
 refine al_ef rfl (ef_callm false (fun _ => rightstack_v 3 (by decide) _ _ _ hs (by omega) (by omega)) rfl .fn rfl (by decide) (by kernel_rfl) rfl rfl (fun _g => .cons (.p rfl) (.cons (.c rfl) .nil)) (fun _g => .cons (.c rfl) (.cons (.c rfl) .nil)) (by simp)) ?_
 rintro F1 H1 ⟨_, _, _, _, ⟨vk, l, st0, ak, rfl, hq, hak1, hak2, hl1, hl2, hlc⟩, hF, hH⟩
 injection hq with hq1 hq2; subst hq1; subst hq2
 (refine NST hF hH ?_; clear hF hH; rintro rfl rfl)
 refine WE ?_
 refine WA ?_
 have e1 : (cR l).length = l.length := by simp
 have hlt : (0 : Int) < (cR l).length := by omega
 refine WA ?_
 refine aw_cond_t rfl ?_
 refine WR ?_
 refine al_ef rfl (ef_callm false (fun _ => range_a 0 2 _ _ _ hs (by omega) (by omega) (by omega) (by omega) (by omega) (by omega)) rfl .fn rfl (by decide) (by kernel_rfl) rfl rfl (fun _g => .cons (.p rfl) (.cons (.c rfl) (.cons (.c rfl) .nil))) (fun _g => .cons (.c rfl) (.cons (.c rfl) .nil)) (by simp)) ?_
 rintro F1 H1 ⟨_, _, _, _, ⟨sw, a1, rfl, hq, hr3sw, hr4sw, hr1sw, hr2sw, _⟩, hF, hH⟩
 injection hq with hq1 hq2; subst hq1; subst hq2
 (refine NST hF hH ?_; clear hF hH; rintro rfl rfl)
 refine WO ?_
 refine al_ef rfl (ef_callm false (fun _ => range_a 0 1 _ _ _ hs (by omega) (by omega) (by omega) (by omega) (by omega) (by omega)) rfl .fn rfl (by decide) (by kernel_rfl) rfl rfl (fun _g => .cons (.p rfl) (.cons (.c rfl) (.cons (.c rfl) .nil))) (fun _g => .cons (.c rfl) (.cons (.c rfl) .nil)) (by simp)) ?_
 rintro F1 H1 ⟨_, _, _, _, ⟨tp, a2, rfl, hq, hr3tp, hr4tp, hr1tp, hr2tp, _⟩, hF, hH⟩
 injection hq with hq1 hq2; subst hq1; subst hq2
 (refine NST hF hH ?_; clear hF hH; rintro rfl rfl)
 refine WO ?_
 obtain ⟨wn, rfl⟩ : ∃ k : Nat, sw = (k : Int) := ⟨sw.toNat, by omega⟩
 refine al_ef rfl (ef_call0 false (fun _ => planof_w vk l wn tp 0 1 (by omega) (by omega) (by omega) (by omega) hl2 (fun p hp => (hlc p hp).1)) rfl .fn rfl (by decide) (by kernel_rfl) rfl (fun _ => C0 rfl) (by simp)) ?_
 rintro _ _ ⟨_, _, _, ⟨vf, A0, cp, lv, ws, s, wp, p, R, rfl, hfo, hlv, rfl⟩, hF, hH⟩
 (refine NSU hF hH ?_; clear hF hH; rintro rfl rfl)
 refine ZA (rd_indexq (i := 0) rfl (KE (t := 86) rfl) rfl rfl rfl rfl rfl) ?_
 refine WE ?_
 refine aw_thawbox (b := 2) (j := 0) (q := 4) rfl rfl rfl ?_
 have hsz : ∀ q ∈ lv ++ [(ws, s), (wp, p)], SzC q.2 := fil_rows hfo
 refine aw_cut (fun F H => ∃ (bb : Bool) (ax : Int), a ≤ ax ∧ ax ≤ a + 20010 ∧ F = [(0, .p 0 0 0), (2, .p 1 0 0), (4, .p 2 0 0), (23, .c (B bb))] ∧ H = [strm v zs ax, filZ, .box [.o 3 0 lv.length cp, .c (I s.st), .c (I s.x), .c (I s.y), .c (.r ws (tR s.rows)), .c (I p.st), .c (I p.x), .c (I p.y), .c (.r wp (tR p.rows))], .arr 28 4 cp (cR lv)]) ?_ ?_ wk_aw
 ·refine WR ?_
  refine al_ef rfl (ef_callm false (fun _ => flip_a 6 _ _ _ hs (by omega) (by omega) (by simp only [in64]; omega)) rfl .fn rfl (by decide) (by kernel_rfl) rfl rfl (fun _g => .cons (.p rfl) (.cons (.c rfl) .nil)) (fun _g => .cons (.c rfl) (.cons (.c rfl) .nil)) (by simp)) ?_
  rintro F1 H1 ⟨_, _, _, _, ⟨bb, rfl, hq⟩, hF, hH⟩
  injection hq with hq1 hq2; subst hq1; subst hq2
  (refine NST hF hH ?_; clear hF hH; rintro rfl rfl)
  refine WE ?_
  refine wk_of [some 0, some 1, some 2, some 3] (fun _ => [(0, .p 0 0 0), (2, .p 1 0 0), (4, .p 2 0 0), (23, .c (B bb))]) (fun _ => [strm v zs _, filZ, .box [.o 3 0 lv.length cp, .c (I s.st), .c (I s.x), .c (I s.y), .c (.r ws (tR s.rows)), .c (I p.st), .c (I p.x), .c (I p.y), .c (.r wp (tR p.rows))], .arr 28 4 cp (cR lv)]) (by decide) (ZNL hE) ZCF ZCH (fun _ => ?_)
  exact ⟨bb, _, by omega, by omega, rfl, rfl⟩
 rintro F H ⟨bb, ax, hax1, hax2, rfl, rfl⟩
 refine ZZ ?_
 refine aw_cut (fun F H => ∃ (lv : List (Value × Cel)) (cp : Nat) (s : Cel) (ws : Value) (p : Cel) (wp : Value) (ay : Int), a ≤ ay ∧ ay ≤ a + 30000 ∧ lv.length ≤ 11 ∧ (∀ q ∈ lv ++ [(ws, s), (wp, p)], SzC q.2) ∧ F = [(2, .p 1 0 0), (4, .p 2 0 0)] ∧ H = [strm v zs ay, filZ, .box [.o 3 0 lv.length cp, .c (I s.st), .c (I s.x), .c (I s.y), .c (.r ws (tR s.rows)), .c (I p.st), .c (I p.x), .c (I p.y), .c (.r wp (tR p.rows))], .arr 28 4 cp (cR lv)]) ?_ ?_ wk_aw
 ·refine aw_cond rfl (fun _ => ?_) (fun _ => ?_)
  ·refine WR ?_
   refine al_ef rfl (ef_callm false (fun _ => next_a 3 _ _ _ hs (by omega) (by omega) (by simp only [in64]; omega)) rfl .fn rfl (by decide) (by kernel_rfl) rfl rfl (fun _g => .cons (.p rfl) (.cons (.c rfl) .nil)) (fun _g => .cons (.c rfl) (.cons (.c rfl) .nil)) (by simp)) ?_
   rintro F1 H1 ⟨_, _, _, _, ⟨rr, rfl, hq, hrr1, hrr2⟩, hF, hH⟩
   injection hq with hq1 hq2; subst hq1; subst hq2
   (refine NST hF hH ?_; clear hF hH; rintro rfl rfl)
   refine WE ?_
   refine WA ?_
   refine aw_if rfl (fun _ => ?_) (fun _ => ?_)
   ·refine WR ?_
    refine al_ef rfl (ef_callm false (fun _ => acells_w 10 (by decide) _ _ _ hs (by omega) (by omega)) rfl .fn rfl (by decide) (by kernel_rfl) rfl rfl (fun _g => .cons (.p rfl) (.cons (.c rfl) .nil)) (fun _g => .cons (.c rfl) (.cons (.c rfl) .nil)) (by simp)) ?_
    rintro F1 H1 ⟨_, _, _, _, ⟨vc, c, ac, rfl, hq, hac1, hac2, hcs, hcst⟩, hF, hH⟩
    injection hq with hq1 hq2; subst hq1; subst hq2
    (refine NST hF hH ?_; clear hF hH; rintro rfl rfl)
    refine WE ?_
    refine wk_of [some 0, some 1, some 2, some 3] (fun _ => [(2, .p 1 0 0), (4, .p 2 0 0)]) (fun _ => [strm v zs _, filZ, .box [.o 3 0 (lv).length cp, .c (I (c).st), .c (I (c).x), .c (I (c).y), .c (.r vc (tR (c).rows)), .c (I (p).st), .c (I (p).x), .c (I (p).y), .c (.r wp (tR (p).rows))], .arr 28 4 cp (cR (lv))]) (by decide) (ZNL hE) ZCF ZCH (fun _ => ?_)
    refine ⟨lv, cp, c, vc, p, wp, _, ?_, ?_, by omega, fun q hq => ?_, rfl, rfl⟩
    ·omega
    ·omega
    ·rcases List.mem_append.1 hq with hq | hq
     ·exact hsz q (List.mem_append_left _ hq)
     ·simp only [List.mem_cons, List.not_mem_nil, or_false] at hq
      rcases hq with rfl | rfl
      ·exact hcs.sz
      ·exact hsz _ (by simp)
   ·refine ZZ ?_
    refine WA ?_
    refine aw_if rfl (fun _ => ?_) (fun _ => ?_)
    ·refine WR ?_
     refine al_ef rfl (ef_callm false (fun _ => acells_w 4 (by decide) _ _ _ hs (by omega) (by omega)) rfl .fn rfl (by decide) (by kernel_rfl) rfl rfl (fun _g => .cons (.p rfl) (.cons (.c rfl) .nil)) (fun _g => .cons (.c rfl) (.cons (.c rfl) .nil)) (by simp)) ?_
     rintro F1 H1 ⟨_, _, _, _, ⟨vc, c, ac, rfl, hq, hac1, hac2, hcs, hcst⟩, hF, hH⟩
     injection hq with hq1 hq2; subst hq1; subst hq2
     (refine NST hF hH ?_; clear hF hH; rintro rfl rfl)
     refine WE ?_
     refine wk_of [some 0, some 1, some 2, some 3] (fun _ => [(2, .p 1 0 0), (4, .p 2 0 0)]) (fun _ => [strm v zs _, filZ, .box [.o 3 0 (lv).length cp, .c (I (s).st), .c (I (s).x), .c (I (s).y), .c (.r ws (tR (s).rows)), .c (I (c).st), .c (I (c).x), .c (I (c).y), .c (.r vc (tR (c).rows))], .arr 28 4 cp (cR (lv))]) (by decide) (ZNL hE) ZCF ZCH (fun _ => ?_)
     refine ⟨lv, cp, s, ws, c, vc, _, ?_, ?_, by omega, fun q hq => ?_, rfl, rfl⟩
     ·omega
     ·omega
     ·rcases List.mem_append.1 hq with hq | hq
      ·exact hsz q (List.mem_append_left _ hq)
      ·simp only [List.mem_cons, List.not_mem_nil, or_false] at hq
       rcases hq with rfl | rfl
       ·exact hsz _ (by simp)
       ·exact hcs.sz
    ·refine ZZ ?_
     have elv : (cR lv).length = lv.length := by simp
     refine ZZ ?_
     refine aw_regionT [(0, none), (1, none), (2, none), (3, some [0, 1]), (4, some [0, 1]), (5, some []), (6, none), (7, some [])] hMixed (by kernel_rfl) ?_
     refine WP ?_
     refine at_ef rfl rfl (ef_callm false (fun _ => acells_w 10 (by decide) _ _ _ hs (by omega) (by omega)) rfl .fn rfl (by decide) (by kernel_rfl) rfl rfl (fun _g => .cons (.p rfl) (.cons (.c rfl) .nil)) (fun _g => .cons (.c rfl) (.cons (.c rfl) .nil)) (by simp)) ?_
     rintro F1 H1 ⟨_, _, _, _, ⟨vc, c, ac, rfl, hq, hac1, hac2, hcs, hcst⟩, hF, hH⟩
     injection hq with hq1 hq2; subst hq1; subst hq2
     (refine NST hF hH ?_; clear hF hH; rintro rfl rfl)
     refine ⟨ag_cons (by first | exact ag_rd rfl rfl rfl (ZX (KF (t := 60) (f := 0) rfl rfl)) rfl) (ag_cons (by first | exact ag_rd rfl rfl rfl (ZL (KK (t := 58) rfl)) rfl) (ag_none)), ?_⟩
     refine WP ?_
     refine at_ef rfl rfl (Zapp (KA (t := 58) rfl)) ?_
     rintro _ _ ⟨_, cc, hcc, rfl, rfl⟩
     refine ⟨ag_none, ?_⟩
     refine WQ ?_
     all_goals (
      refine wk_of [some 0, some 1, some 2, some 3] (fun _ => [(2, .p 1 0 0), (4, .p 2 0 0)]) (fun _ => [strm v zs _, filZ, .box [.o 3 0 (lv ++ [(vc, c)]).length cc, .c (I (s).st), .c (I (s).x), .c (I (s).y), .c (.r ws (tR (s).rows)), .c (I (p).st), .c (I (p).x), .c (I (p).y), .c (.r wp (tR (p).rows))], .arr 28 4 cc (cR (lv ++ [(vc, c)]))]) (by decide) (ZNL hE) ZCF ZCH (fun _ => ?_)
      refine ⟨lv ++ [(vc, c)], cc, s, ws, p, wp, _, ?_, ?_, by simp; omega, fun q hq => ?_, rfl, rfl⟩
      ·omega
      ·omega
      ·rcases List.mem_append.1 hq with hq | hq
       ·rcases List.mem_append.1 hq with hq | hq
        ·exact hsz q (List.mem_append_left _ hq)
        ·rw [List.mem_singleton.1 hq]; exact hcs.sz
       ·exact hsz q (List.mem_append_right _ hq))
  ·refine ZZ ?_
   refine wk_of [some 0, some 1, some 2, some 3] (fun _ => [(2, .p 1 0 0), (4, .p 2 0 0)]) (fun _ => [strm v zs _, filZ, .box [.o 3 0 (lv).length cp, .c (I (s).st), .c (I (s).x), .c (I (s).y), .c (.r ws (tR (s).rows)), .c (I (p).st), .c (I (p).x), .c (I (p).y), .c (.r wp (tR (p).rows))], .arr 28 4 cp (cR (lv))]) (by decide) (ZNL hE) ZCF ZCH (fun _ => ?_)
   exact ⟨lv, cp, s, ws, p, wp, _, hax1, by omega, by omega, hsz, rfl, rfl⟩
 clear hsz hfo hlv
 rintro F H ⟨lv, cp, s, ws, p, wp, ay, hay1, hay2, hll, hsz, rfl, rfl⟩
 refine ZZ ?_
 refine WA ?_
 exact aret_of (us := [.a [.o 3 0 lv.length cp, .c (I s.st), .c (I s.x), .c (I s.y), .c (.r ws (tR s.rows)), .c (I p.st), .c (I p.x), .c (I p.y), .c (.r wp (tR p.rows))]]) [some 0] (fun g => .a [.c (.r (g (.o 3 0 lv.length cp)) (cR lv)), .c (I s.st), .c (I s.x), .c (I s.y), .c (.r ws (tR s.rows)), .c (I p.st), .c (I p.x), .c (I p.y), .c (.r wp (tR p.rows))]) (fun _ => [strm v zs ay]) (.cella (n := 9) rfl (by kernel_rfl) (Cells.box rfl) (by first | (simp; done) | exact Nat.le_refl 9) (by (try simp only [nm, putL, Nat.reduceAdd, cellsOf, cvOf]) <;> rfl) .nil) (by decide) (ZNK rfl) (fun g' => .aL (.cons (.frz rfl rfl (by rw [List.drop_zero, List.take_of_length_le (by simp)]) (by simp) rfl) (.cons (.c rfl) (.cons (.c rfl) (.cons (.c rfl) (.cons (.c rfl) (.cons (.c rfl) (.cons (.c rfl) (.cons (.c rfl) (.cons (.c rfl) .nil)))))))))) ZCH (fun g' => ⟨Fil.mk _ lv (ws, s) (wp, p), ay, rfl, rfl, hay1, hay2, by simp only; omega, hsz⟩)
end Go.Proofs.YtniolldgidgffaaGreatDoor
