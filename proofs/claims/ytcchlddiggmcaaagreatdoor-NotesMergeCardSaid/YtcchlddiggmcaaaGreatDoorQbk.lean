/- The notes that count: the document's way is the program's. -/
import Derived.Test.YtcchlddiggmcaaaGreatDoorQbj
set_option linter.unusedSimpArgs false
set_option linter.unusedVariables false
-- NEWM
namespace Go.Proofs.YtcchlddiggmcaaaGreatDoor
open Go Go.RowKit
set_option maxRecDepth 100000
theorem revI_a (l : List Int) (c : Nat) (hl : l.length ≤ 1000000) (hc : l.length ≤ c) : ACallsX true Tryz.prog 79 [.o 0 0 l.length c] [.arr 3 1 c (l.map (fun n => [I n]))] fun u H => u = .t [] ∧ H = [.arr 3 1 c (l.reverse.map (fun n => [I n]))] := by
 refine zY1 true (N := 28) Tryz.func79 rfl rfl (by simp) fun E hE hP => ?_
 refine WA ?_
 refine zC (fun q F H => ∃ (k : Nat) (j : Int) (l' : List Int), q + k = l.length ∧ j = (l.length : Int) - 1 - k ∧ k ≤ l.length ∧ SwK l k l' ∧ F = [(0, .o 0 0 l.length c), (2, .c (I k)), (3, .c (I j))] ∧ H = [.arr 3 1 c (l'.map (fun n => [I n]))]) ?_ ?_
 ·refine zm [some 0] (fun _ => [(0, .o 0 0 l.length c), (2, .c (I (0 : Nat))), (3, .c (I ((l.length : Int) - 1)))]) (fun _ => _) (by decide) (ZNL hE) ZCF ZCH (fun _ => ?_)
  exact ⟨l.length, 0, _, l, by omega, by omega, by omega, .zero l, rfl, rfl⟩
 rintro q F H ⟨k, j, l', hq, hj, hkl, hS, rfl, rfl⟩
 refine WA ?_
 refine zr rfl (fun hlt => ?_) (fun hge => ?_)
 ·obtain ⟨j', rfl⟩ : ∃ j' : Nat, j = j' := ⟨j.toNat, by omega⟩
  have hl1 := hS.1
  obtain ⟨x, hx⟩ : ∃ x, l'[k]? = some x := ⟨_, List.getElem?_eq_getElem (by omega)⟩
  obtain ⟨y, hy⟩ : ∃ y, l'[j']? = some y := ⟨_, List.getElem?_eq_getElem (by omega)⟩
  have hrx : (l'.map (fun n => [I n]))[k]? = some [I x] := by rw [List.getElem?_map, hx]; rfl
  have hry : (l'.map (fun n => [I n]))[j']? = some [I y] := by rw [List.getElem?_map, hy]; rfl
  have hry2 : ((l'.map (fun n => [I n])).set (0 + k) [I y])[0 + j']? = some [I y] := by rw [Nat.zero_add, Nat.zero_add, List.getElem?_set_ne (by omega), hry]
  have hS2 := hS.next (j := j') (by omega) (by omega) hx hy
  have hm : (((l'.set k y).set j' x).map (fun n => [I n])) = ((l'.map (fun n => [I n])).set (0 + k) [I y]).set (0 + j') [I x] := by rw [List.map_set, List.map_set, Nat.zero_add, Nat.zero_add]
  refine ZZ ?_
  refine zo [(0, none), (1, none), (2, none), (3, none), (4, none), (5, none), (6, none), (7, none), (8, none), (9, none), (10, none), (11, none), (12, none), (13, some [2, 3]), (14, none), (15, some [])] zR (by kernel_rfl) ?_
  refine WQ ?_
  refine WA ?_
  refine zm [some 0] (fun _ => [(0, .o 0 0 l.length c), (2, .c (I (k + 1 : Nat))), (3, .c (I ((j' : Int) - 1)))]) (fun _ => [.arr 3 1 c (((l'.set k y).set j' x).map (fun n => [I n]))]) (by decide) (ZNL hE) ZCF (by rw [hm]; exact ZCH) (fun _ => ?_)
  exact ⟨q - 1, by omega, k + 1, _, _, by omega, by omega, by omega, hS2, rfl, rfl⟩
 refine ZZ ?_
 have he : l' = l.reverse := hS.fin (by omega)
 subst he
 refine aret_0 [some 0] (fun _ => [.arr 3 1 c (l.reverse.map (fun n => [I n]))]) (by simp) rfl (by decide) (ZNK rfl) ZCH (fun _ => ⟨rfl, rfl⟩)
def cJ (v : Value) (l : List Nt) (at_ : Int) (k : Nat) (H : List OB) : Prop := ∃ mk ml cp x, (∀ s, (mget ml s).getD false = (cst at_ l k).1.contains s) ∧ (cst at_ l k).2.length ≤ cp ∧ H = cH v l at_ mk ml cp (cst at_ l k).2 ++ [.box ((noR x).map .c)]
theorem cst_len (at_ : Int) (l : List Nt) : ∀ k, k ≤ l.length → (cst at_ l k).2.length ≤ k
 | 0, _ => by simp [cst]
 | k + 1, h => by
  obtain ⟨x, _, hx⟩ := bwd_at (show k < l.length by omega)
  have := cst_len at_ l k (by omega)
  rw [cst_next hx]
  unfold cstp
  split
  ·omega
  ·simp; omega
theorem counting_v (v : Value) (l : List Nt) (at_ : Int) (hl : l.length ≤ 1000000) : ACalls Tryz.prog 50 [.c (.r v (noRs l)), .c (I at_)] [] fun u H => ∃ c, (cntP at_ l).length ≤ c ∧ u = .o 0 0 (cntP at_ l).length c ∧ H = [.arr 3 1 c (nR (cntP at_ l))] := by
 refine acalls_ofF (N := 43) Tryz.func50 rfl rfl (by simp) fun E hE hP hrd hdf => ?_
 refine awf_seq hrd (K := fun F H => F = [(0, .c (.r v (noRs l))), (3, .p 0 0 0)] ∧ H = [.box [.c (I at_)]]) ?_ ?_
 ·refine aw_post ?_
  refine WA ?_
  exact zm [some 0] (fun _ => [(0, .c (.r v (noRs l))), (3, .p 0 0 0)]) (fun _ => [.box [.c (I at_)]]) (by decide) (ZNL hE) ZCF ZCH (fun _ => ⟨rfl, rfl, rfl⟩)
 rintro F H ⟨rfl, rfl⟩
 refine awf_seq hrd (K := fun F H => F = [(0, .c (.r v (noRs l))), (3, .p 0 0 0), (5, .p 2 0 0)] ∧ H = [.box [.c (I at_)], mpO encO encB [] 0, .box [.mp 1]]) ?_ ?_
 ·refine aw_post ?_
  refine ZR ?_
  refine ze rfl (ef_mkmap rfl rfl (by decide)) ?_
  rintro _ _ ⟨rfl, rfl⟩
  refine WE ?_
  exact zm [some 0, some 1, some 2] (fun _ => [(0, .c (.r v (noRs l))), (3, .p 0 0 0), (5, .p 2 0 0)]) (fun _ => [.box [.c (I at_)], mpO encO encB [] 0, .box [.mp 1]]) (by decide) (ZNL hE) ZCF ZCH (fun _ => ⟨rfl, rfl, rfl⟩)
 rintro F H ⟨rfl, rfl⟩
 refine awf_seq hrd (K := fun F H => F = [(0, .c (.r v (noRs l))), (3, .p 0 0 0), (5, .p 2 0 0), (6, .p 3 0 0)] ∧ H = [.box [.c (I at_)], mpO encO encB [] 0, .box [.mp 1], .box [.c (.r (.slice none 0 0) [])]]) ?_ ?_
 ·refine aw_post ?_
  refine WA ?_
  exact zm [some 0, some 1, some 2, some 3] (fun _ => [(0, .c (.r v (noRs l))), (3, .p 0 0 0), (5, .p 2 0 0), (6, .p 3 0 0)]) (fun _ => [.box [.c (I at_)], mpO encO encB [] 0, .box [.mp 1], .box [.c (.r (.slice none 0 0) [])]]) (by decide) (ZNL hE) ZCF ZCH (fun _ => ⟨rfl, rfl, rfl⟩)
 rintro F H ⟨rfl, rfl⟩
 refine awf_rfy (rfy_seq hrd (K := fun F H => F = [(3, .p 0 0 0), (5, .p 2 0 0), (6, .p 4 0 0), (11, .f (.func 106) [.p 5 0 0])] ∧ H = cH v l at_ 0 [] 0 []) ?_ ?_)
 ·refine aw_post ?_
  refine WR ?_
  refine ze rfl (za false (fun _ => backward_v v l) rfl .fn rfl (by decide) (by kernel_rfl) rfl (fun _ => C0 rfl) (by simp)) ?_
  rintro _ _ ⟨_, _, _, ⟨rfl, rfl⟩, hF, hH⟩
  (refine NST hF hH ?_; clear hF hH; rintro rfl rfl)
  refine WE ?_
  exact zm [some 0, some 1, some 2, none, some 3, some 4] (fun _ => [(3, .p 0 0 0), (5, .p 2 0 0), (6, .p 4 0 0), (11, .f (.func 106) [.p 5 0 0])]) (fun _ => [.box [.c (I at_)], mpO encO encB [] 0, .box [.mp 1], .arr 3 1 0 [], .box [.o 3 0 0 0], .box [.c (.r v (noRs l))]]) (by decide) (ZNL hE) (fun _ => .cons rfl (.p rfl) (.cons rfl (.p rfl) (.cons rfl (.p rfl) (.cons rfl (.fL (.cons (.p rfl) .nil)) .nil)))) ZCH (fun _ => ⟨rfl, rfl, rfl⟩)
 rintro F H ⟨rfl, rfl⟩
 refine rfy_block (rfy_rf (ps := [12, 13]) hrd hdf rfl rfl (by kernel_rfl) (fun x : Nat × Nt => [.c (I x.1), noA x.2]) (fun x => [.int .i64 x.1, encN.v x.2]) (fun x ρ H => rfl) (fun x w S ρ H y hy => ?_) (bwd l) (fun _ => rfl) (by decide) (backward_seq v l hl) [(3, .p 0 0 0), (5, .p 2 0 0), (6, .p 4 0 0)] (.cons rfl rfl (.cons rfl rfl (.cons rfl rfl .nil))) (cInv v l at_) (fun k H hi => ?_) ⟨0, [], 0, fun s => by simp [mget, cst], Nat.le_refl _, rfl⟩
  (fun k x F H => F = [(7, .c (I x.1)), (8, .p 6 0 0), (3, .p 0 0 0), (5, .p 2 0 0), (6, .p 4 0 0)] ∧ ∃ mk ml cp, (bwd l)[k]? = some x ∧ (∀ s, (mget ml s).getD false = (cst at_ l k).1.contains s) ∧ (cst at_ l k).2.length ≤ cp ∧ H = cH v l at_ mk ml cp (cst at_ l k).2 ++ [.box ((noR x.2).map .c)]) (fun k x F H ⟨_, mk, ml, cp, _, _, _, hH⟩ => ?_) (fun k _ H => cJ v l at_ k H) ?_ ?_ (fun k F H hj => ?_) (fun E5 k F H hE5 _ hj => ?_) ?_)
 ·rcases List.mem_cons.1 hy with rfl | hy
  ·exact .c (.s _)
  ·rw [List.mem_singleton] at hy; subst hy; exact encN.wf x.2 w S ρ H
 ·obtain ⟨mk, ml, cp, _, _, rfl⟩ := hi
  have h5 := cH_flat (v := v) (l := l) (at_ := at_) (mk := mk) (ml := ml) (cp := cp) (out := (cst at_ l k).2) (H0 := cH v l at_ 0 [] 0 []) rfl [] (by simp)
  rw [List.append_nil] at h5
  exact ⟨h5, ⟨[], rfl, by simp⟩, rfl⟩
 ·subst hH
  refine ⟨cH_flat rfl _ (fun o ho => ?_), ⟨[1], rfl, by simp⟩, rfl⟩
  rw [List.mem_singleton] at ho
  subst ho
  intro y hy
  obtain ⟨u, hu, rfl⟩ := List.mem_map.1 hy
  simp only [noR, List.mem_cons, List.not_mem_nil, or_false] at hu
  rcases hu with rfl | rfl | rfl | rfl | rfl | rfl | rfl | rfl | rfl | rfl <;> trivial
 ·rintro E3 k ⟨i, st, no, xat, kn, pr, jb, sp, n, of_, ot⟩ H hE3 hP3 hx ⟨mk, ml, cp, hm, hcp, rfl⟩
  have hE : E3.H0.length = 6 := by rw [hE3]; rfl
  have hP : E3.pin = false := hP3.trans hP
  generalize hcs : cst at_ l k = cs at hm hcp
  obtain ⟨ud, out⟩ := cs
  simp only at hm hcp
  show AW _ _ _ _ [(13, .a [.c (T st), .c (I no), .c (I xat), .c (I kn), .c (T pr), .c (T jb), .c (T sp), .c (I n), .c (T of_), .c (I ot)]), (12, .c (I i)), (3, .p 0 0 0), (5, .p 2 0 0), (6, .p 4 0 0)] [.box [.c (I at_)], mpO encO encB ml mk, .box [.mp 1], .arr 3 1 cp (nR out), .box [.o 3 0 out.length cp], .box [.c (.r v (noRs l))]] _
  refine aw_post ?_
  refine zF ?_
  refine WA ?_
  refine WA ?_
  exact zm [some 0, some 1, some 2, some 3, some 4, some 5, some 6] (fun _ => [(7, .c (I i)), (8, .p 6 0 0), (3, .p 0 0 0), (5, .p 2 0 0), (6, .p 4 0 0)]) (fun _ => [.box [.c (I at_)], mpO encO encB ml mk, .box [.mp 1], .arr 3 1 cp (nR out), .box [.o 3 0 out.length cp], .box [.c (.r v (noRs l))], .box [.c (T st), .c (I no), .c (I xat), .c (I kn), .c (T pr), .c (T jb), .c (T sp), .c (I n), .c (T of_), .c (I ot)]]) (by decide) (ZNL hE) ZCF ZCH (fun _ => ⟨rfl, rfl, mk, ml, cp, hx, hm, hcp, rfl⟩)
 ·rintro E3 k ⟨i, st, no, xat, kn, pr, jb, sp, n, of_, ot⟩ F H hE3 hP3 hx ⟨rfl, mk, ml, cp, _, hm, hcp, rfl⟩
  have hE : E3.H0.length = 7 := by rw [hE3]; rfl
  have hE6 : 6 ≤ 7 := by omega
  have hP : E3.pin = false := hP3.trans hP
  have hst := cst_next (at_ := at_) hx
  unfold cJ
  rw [hst]
  have hol0 := cst_len at_ l k (by have := (List.getElem?_eq_some_iff.1 hx).1; rw [bwd_len] at this; omega)
  have hkl : k < l.length := by have := (List.getElem?_eq_some_iff.1 hx).1; rwa [bwd_len] at this
  generalize cst at_ l k = cs at hm hcp hol0 ⊢
  obtain ⟨ud, out⟩ := cs
  simp only at hm hcp hol0
  have hol : out.length ≤ 1000000 := by omega
  have e1 : (nR out).length = out.length := by simp
  show AW _ _ _ _ [(7, .c (I i)), (8, .p 6 0 0), (3, .p 0 0 0), (5, .p 2 0 0), (6, .p 4 0 0)] [.box [.c (I at_)], mpO encO encB ml mk, .box [.mp 1], .arr 3 1 cp (nR out), .box [.o 3 0 out.length cp], .box [.c (.r v (noRs l))], .box [.c (T st), .c (I no), .c (I xat), .c (I kn), .c (T pr), .c (T jb), .c (T sp), .c (I n), .c (T of_), .c (I ot)]] _
  refine aw_post ?_
  refine ZZ ?_
  by_cases hat : at_ < xat
  ·have hs : cstp at_ (ud, out) (i, ⟨st, no, xat, kn, pr, jb, sp, n, of_, ot⟩) = (ud, out) := by unfold cstp; rw [if_pos (.inl hat)]
   rw [hs]
   refine WA ?_
   refine zb rfl ?_
   refine ZZ ?_
   exact zm [some 0, some 1, some 2, some 3, some 4, some 5, some 6] (fun _ => []) (fun _ => [.box [.c (I at_)], mpO encO encB ml mk, .box [.mp 1], .arr 3 1 cp (nR out), .box [.o 3 0 out.length cp], .box [.c (.r v (noRs l))], .box [.c (T st), .c (I no), .c (I xat), .c (I kn), .c (T pr), .c (T jb), .c (T sp), .c (I n), .c (T of_), .c (I ot)]]) (by decide) (ZNL hE) (fun _ => .nil) ZCH (fun _ => ⟨rfl, mk, ml, cp, ⟨st, no, xat, kn, pr, jb, sp, n, of_, ot⟩, hm, hcp, rfl⟩)
  ·obtain ⟨q, hq⟩ : ∃ q, (mget ml (st, no)).getD false = q := ⟨_, rfl⟩
   have hq2 := hm (st, no)
   rw [hq] at hq2
   refine ZR ?_
   iterate 11 refine WX1 ?_
   first | refine ZP (rd_lkO (k := (st, no)) (l := ml) (ck := mk) hq rfl rfl rfl rfl) ?_ | refine ZS ?_
   refine WE ?_
   cases q with
   | true =>
    have hs : cstp at_ (ud, out) (i, ⟨st, no, xat, kn, pr, jb, sp, n, of_, ot⟩) = (ud, out) := by unfold cstp; rw [if_pos (.inr (List.contains_iff_mem.1 hq2.symm))]
    rw [hs]
    refine zb rfl ?_
    refine ZZ ?_
    exact zm [some 0, some 1, some 2, some 3, some 4, some 5, some 6] (fun _ => []) (fun _ => [.box [.c (I at_)], mpO encO encB ml mk, .box [.mp 1], .arr 3 1 cp (nR out), .box [.o 3 0 out.length cp], .box [.c (.r v (noRs l))], .box [.c (T st), .c (I no), .c (I xat), .c (I kn), .c (T pr), .c (T jb), .c (T sp), .c (I n), .c (T of_), .c (I ot)]]) (by decide) (ZNL hE) (fun _ => .nil) ZCH (fun _ => ⟨rfl, mk, ml, cp, ⟨st, no, xat, kn, pr, jb, sp, n, of_, ot⟩, hm, hcp, rfl⟩)
   | false =>
    have hnm : (st, no) ∉ ud := fun h => by rw [List.contains_iff_mem.2 h] at hq2; cases hq2
    refine zc rfl ?_
    refine ZZ ?_
    refine WR ?_
    refine ze rfl (Zapp (news := [[I i]]) (j := 1) (hE := KA (t := 22) rfl) (hsrc := .own rfl rfl rfl) (hj := rfl) (hle := by omega)) ?_
    rintro _ _ ⟨_, cc, hcc, rfl, rfl⟩
    refine WE ?_
    refine WA ?_
    by_cases h7 : kn = 7
    ·have hs : cstp at_ (ud, out) (i, ⟨st, no, xat, kn, pr, jb, sp, n, of_, ot⟩) = (ud ++ [(of_, ot)], out ++ [(i : Int)]) := by unfold cstp; rw [if_neg (fun h => h.elim hat hnm), if_pos h7]
     rw [hs]
     refine zq rfl (fun _ => ?_) (fun h => absurd h (by simp [h7]))
     refine ZR ?_
     iterate 6 refine WX1 ?_
     refine ze rfl (ef_muO (k := (of_, ot)) (l := ml) (ck := mk) (z := true) rfl rfl rfl rfl rfl rfl) ?_
     rintro _ _ ⟨rfl, rfl⟩
     refine WE ?_
     refine zm [some 0, some 1, some 2, some 3, some 4, some 5, some 6] (fun _ => []) (fun _ => [.box [.c (I at_)], mpO encO encB (mset mk (of_, ot) true ml) (mclk mk (of_, ot) ml), .box [.mp 1], .arr 3 1 cc (nR out ++ [[I i]]), .box [.o 3 0 (out.length + 1) cc], .box [.c (.r v (noRs l))], .box [.c (T st), .c (I no), .c (I xat), .c (I kn), .c (T pr), .c (T jb), .c (T sp), .c (I n), .c (T of_), .c (I ot)]]) (by decide) (ZNL hE) (fun _ => .nil) ZCH (fun _ => ⟨rfl, _, _, cc, ⟨st, no, xat, kn, pr, jb, sp, n, of_, ot⟩, fun s => ?_, by simp at hcc ⊢; omega, by simp only [cH, List.length_append, List.length_singleton, List.map_append]; rfl⟩)
     rw [zy1]
     by_cases h : s = (of_, ot)
     ·rw [if_pos h, h]; simp
     ·rw [if_neg h, hm, List.contains_eq_mem, List.contains_eq_mem]; simp [h]
    ·have hs : cstp at_ (ud, out) (i, ⟨st, no, xat, kn, pr, jb, sp, n, of_, ot⟩) = (ud, out ++ [(i : Int)]) := by unfold cstp; rw [if_neg (fun h => h.elim hat hnm), if_neg h7]
     rw [hs]
     refine zq rfl (fun h => absurd h (by simp [h7])) (fun _ => ?_)
     refine ZZ ?_
     exact zm [some 0, some 1, some 2, some 3, some 4, some 5, some 6] (fun _ => []) (fun _ => [.box [.c (I at_)], mpO encO encB ml mk, .box [.mp 1], .arr 3 1 cc (nR out ++ [[I i]]), .box [.o 3 0 (out.length + 1) cc], .box [.c (.r v (noRs l))], .box [.c (T st), .c (I no), .c (I xat), .c (I kn), .c (T pr), .c (T jb), .c (T sp), .c (I n), .c (T of_), .c (I ot)]]) (by decide) (ZNL hE) (fun _ => .nil) ZCH (fun _ => ⟨rfl, mk, ml, cc, ⟨st, no, xat, kn, pr, jb, sp, n, of_, ot⟩, hm, by simp at hcc ⊢; omega, by simp only [cH, List.length_append, List.length_singleton, List.map_append]; rfl⟩)
 ·obtain ⟨mk, ml, cp, x, _, _, rfl⟩ := hj
  refine ⟨cH_flat rfl _ (fun o ho => ?_), ⟨[1], rfl, by simp⟩, rfl⟩
  rw [List.mem_singleton] at ho
  subst ho
  intro y hy
  obtain ⟨u, hu, rfl⟩ := List.mem_map.1 hy
  simp only [noR, List.mem_cons, List.not_mem_nil, or_false] at hu
  rcases hu with rfl | rfl | rfl | rfl | rfl | rfl | rfl | rfl | rfl | rfl <;> trivial
 ·obtain ⟨mk, ml, cp, x, hm, hcp, rfl⟩ := hj
  have hE : E5.H0.length = 6 := by rw [hE5]; rfl
  exact zm [some 0, some 1, some 2, some 3, some 4, some 5] (fun _ => []) (fun _ => cH v l at_ mk ml cp (cst at_ l k).2) (by decide) (ZNL hE) (fun _ => .nil) ZCH (fun _ => ⟨mk, ml, cp, hm, hcp, rfl⟩)
 ·rintro E2 H hE2 hP2 hi
  rw [bwd_len] at hi
  obtain ⟨mk, ml, cp, hm, hcp, rfl⟩ := hi
  have hP : E2.pin = false := hP2.trans hP
  unfold cntP
  have hol0 := cst_len at_ l l.length (Nat.le_refl _)
  generalize cst at_ l l.length = cs at hm hcp hol0
  obtain ⟨ud, out⟩ := cs
  simp only at hm hcp ⊢
  rw [hE]
  show AW _ _ _ _ [(3, .p 0 0 0), (5, .p 2 0 0), (6, .p 4 0 0)] [.box [.c (I at_)], mpO encO encB ml mk, .box [.mp 1], .arr 3 1 cp (nR out), .box [.o 3 0 out.length cp], .box [.c (.r v (noRs l))]] _
  have hol : out.length ≤ 1000000 := Nat.le_trans hol0 hl
  refine WR ?_
  refine ze rfl (zc2 [3] (fun _ => [.arr 3 1 cp (nR out)]) false (fun _ => revI_a out cp hol hcp) rfl .fn rfl (by decide) (by kernel_rfl) rfl ZCH (by decide) ZCH (by simp)) ?_
  rintro F1 H1 ⟨_, _, _, _, ⟨rfl, rfl⟩, hF, hH⟩
  rw [zn1] at hF; (refine NSU hF hH ?_; clear hF hH; rintro rfl rfl)
  refine WE ?_
  refine WA ?_
  exact aret_o [some 3] (fun _ => [.arr 3 1 cp (nR out.reverse)]) rfl rfl rfl (by simp) rfl (by decide) (ZNK rfl) ZCH (fun _ => ⟨cp, by simpa using hcp, rfl, rfl⟩)
end Go.Proofs.YtcchlddiggmcaaaGreatDoor
-- NEWM
namespace Go.Proofs.YtcchlddiggmcaaaGreatDoor
open Go Go.RowKit
set_option maxRecDepth 100000
def askF (l : List Nt) (at_ : Int) : Int := if chkN l ≠ 0 then chkN l else if moB at_ = true then 0 else 1
theorem asked_v (v : Value) (l : List Nt) (at_ : Int) (hl : l.length ≤ 1000000) (hs : ∀ x ∈ l, NtS x) : ACalls Tryz.prog 49 [.c (.r v (noRs l)), .c (I at_)] [] fun u H => u = .c (I (askF l at_)) ∧ H = [] := by
 obtain ⟨q, hq⟩ : ∃ q, moB at_ = q := ⟨_, rfl⟩
 refine zh (N := 14) Tryz.func49 rfl rfl (by simp) fun E hE => ?_
 refine WA ?_
 refine WR ?_
 refine ze rfl (za false (fun _ => zR1 v l (by omega) hs) rfl .fn rfl (by decide) (by kernel_rfl) rfl (fun _ => C0 rfl) (by simp)) ?_
 rintro _ _ ⟨_, _, _, ⟨rfl, rfl⟩, hF, hH⟩
 (refine NST hF hH ?_; clear hF hH; rintro rfl rfl)
 refine WE ?_
 refine WA ?_
 refine zr rfl (fun h0 => ?_) (fun h0 => ?_)
 ·refine WA ?_
  exact zg [] _ rfl rfl rfl (by decide) (ZNK rfl) (fun _ => .nil) ⟨by rw [askF, if_pos h0], rfl⟩
 refine ZZ ?_
 refine WR ?_
 refine ze rfl (za false (fun _ => ismoment_v _) rfl .fn rfl (by decide) (by kernel_rfl) rfl (fun _ => C0 rfl) (by simp)) ?_
 rintro _ _ ⟨_, _, _, ⟨rfl, rfl⟩, hF, hH⟩
 rw [hq] at hF
 (refine NST hF hH ?_; clear hF hH; rintro rfl rfl)
 refine WE ?_
 cases q with
 | true =>
  refine zc rfl ?_
  refine ZZ ?_
  refine WA ?_
  exact zg [] _ rfl rfl rfl (by decide) (ZNK rfl) (fun _ => .nil) ⟨by rw [askF, if_neg h0, if_pos hq], rfl⟩
 | false =>
  refine zb rfl ?_
  refine WA ?_
  exact zg [] _ rfl rfl rfl (by decide) (ZNK rfl) (fun _ => .nil) ⟨by rw [askF, if_neg h0, if_neg (by rw [hq]; simp)], rfl⟩
theorem countingP_v (v : Value) (l : List Nt) (at_ : Int) (hl : l.length ≤ 1000000) (hs : ∀ x ∈ l, NtS x) : ACalls Tryz.prog 15 [.c (.r v (noRs l)), .c (I at_)] [] fun u H => ∃ (r : List Int) (c : Nat), r = (if askF l at_ = 0 then cntP at_ l else []) ∧ r.length ≤ c ∧ u = .t [.o 0 0 r.length c, .c (I (askF l at_))] ∧ H = [.arr 3 1 c (nR r)] := by
 refine zh (N := 16) Tryz.func15 rfl rfl (by simp) fun E hE => ?_
 refine WA ?_
 refine WR ?_
 refine ze rfl (za false (fun _ => asked_v v l at_ hl hs) rfl .fn rfl (by decide) (by kernel_rfl) rfl (fun _ => C0 rfl) (by simp)) ?_
 rintro _ _ ⟨_, _, _, ⟨rfl, rfl⟩, hF, hH⟩
 (refine NST hF hH ?_; clear hF hH; rintro rfl rfl)
 refine WE ?_
 generalize askF l at_ = e
 refine WA ?_
 refine zr rfl (fun h0 => ?_) (fun h0 => ?_)
 ·refine WA ?_
  exact zW (us := [.c (.r (.slice none 0 0) []), .c (I e)]) [none] (fun _ => .t [.o 0 0 0 0, .c (I e)]) (fun _ => [.arr 3 1 0 []]) (.tmp rfl (.tmp rfl .nil)) (by decide) (ZNK rfl) (fun _ => .tL (.cons (.nil rfl) (.cons (.c rfl) .nil))) ZCH (fun _ => ⟨[], 0, by rw [if_neg h0], Nat.le_refl _, rfl, rfl⟩)
 have he : e = 0 := by omega
 subst he
 refine ZZ ?_
 refine WR ?_
 refine ze rfl (za false (fun _ => counting_v v l at_ hl) rfl .fn rfl (by decide) (by kernel_rfl) rfl (fun _ => C0 rfl) (by simp)) ?_
 rintro _ _ ⟨_, _, _, ⟨c3, hc3, rfl, rfl⟩, hF, hH⟩
 (refine NST hF hH ?_; clear hF hH; rintro rfl rfl)
 refine WE ?_
 exact zW (us := [.o 0 0 (cntP at_ l).length c3, .c (I 0)]) [some 0] (fun _ => .t [.o 0 0 (cntP at_ l).length c3, .c (I 0)]) (fun _ => [.arr 3 1 c3 (nR (cntP at_ l))]) (.tmp rfl (.tmp rfl .nil)) (by decide) (ZNK rfl) (fun _ => .tL (.cons (.o rfl rfl) (.cons (.c rfl) .nil))) ZCH (fun _ => ⟨cntP at_ l, c3, rfl, hc3, rfl, rfl⟩)
end Go.Proofs.YtcchlddiggmcaaaGreatDoor
namespace Go.Proofs.YtcchlddiggmcaaaGreatDoor
open Go Go.RowKit
def cU (at_ : Int) : (List UInt8 × Int) → List Nt → Bool
 | _, [] => false
 | key, y :: l => if at_ < y.at_ then false else (decide (y.kd = 7 ∧ (y.of_, y.ot) = key) && !cU at_ (ky y) l) || cU at_ key l
def cR (at_ : Int) : List Nt → Bool
 | [] => false
 | x :: l => decide (x.at_ ≤ at_) && !cU at_ (ky x) l
theorem cU_late {at_ : Int} {s : List UInt8 × Int} : ∀ {l : List Nt}, (∀ y, l.head? = some y → at_ < y.at_) → cU at_ s l = false
 | [], _ => rfl
 | y :: l, h => by rw [cU, if_pos (h y rfl)]
theorem cst_is {at_ : Int} {l : List Nt} (hs : ∀ i x y, l[i]? = some x → l[i + 1]? = some y → x.at_ ≤ y.at_) : ∀ k, k ≤ l.length → (∀ s, (cst at_ l k).1.contains s = cU at_ s (l.drop (l.length - k))) ∧ (cst at_ l k).2.reverse = (((List.range l.length).drop (l.length - k)).filter fun i => cR at_ (l.drop i)).map (fun i : Nat => (i : Int))
 | 0, _ => by
  refine ⟨fun s => ?_, ?_⟩
  ·rw [Nat.sub_zero, List.drop_length]; rfl
  ·rw [Nat.sub_zero, List.drop_of_length_le (by simp)]; rfl
 | k + 1, h => by
  obtain ⟨h1, h2⟩ := cst_is (at_ := at_) hs k (by omega)
  obtain ⟨x, hx, hbx⟩ := bwd_at (show k < l.length by omega)
  have hd : l.drop (l.length - (k + 1)) = x :: l.drop (l.length - k) := by
   rw [show l.length - (k + 1) = l.length - 1 - k by omega, drop_at hx, show l.length - 1 - k + 1 = l.length - k by omega]
  have hr : (List.range l.length).drop (l.length - (k + 1)) = (l.length - 1 - k) :: (List.range l.length).drop (l.length - k) := by
   rw [show l.length - (k + 1) = l.length - 1 - k by omega, drop_at (List.getElem?_range (show l.length - 1 - k < l.length by omega)), show l.length - 1 - k + 1 = l.length - k by omega]
  have hd2 : l.drop (l.length - 1 - k) = x :: l.drop (l.length - k) := by rw [← hd, show l.length - (k + 1) = l.length - 1 - k by omega]
  rw [cst_next hbx, hd, hr, List.filter_cons]
  have hlate : at_ < x.at_ → ∀ s, cU at_ s (l.drop (l.length - k)) = false := fun hl s => cU_late fun y hy => by
   rw [List.head?_drop] at hy
   have := hs (l.length - 1 - k) x y hx (by rw [show l.length - 1 - k + 1 = l.length - k by omega]; exact hy)
   omega
  have hcR : cR at_ (l.drop (l.length - 1 - k)) = (decide (x.at_ ≤ at_) && !cU at_ (ky x) (l.drop (l.length - k))) := by rw [hd2]; rfl
  have hk := h1 (ky x)
  generalize cst at_ l k = cs at h1 h2 hk
  obtain ⟨ud, out⟩ := cs
  simp only at h1 h2 hk
  by_cases c1 : at_ < x.at_
  ·have e : cstp at_ (ud, out) (l.length - 1 - k, x) = (ud, out) := by unfold cstp; rw [if_pos (.inl c1)]
   rw [e]
   refine ⟨fun s => ?_, ?_⟩
   ·rw [cU, if_pos c1, ← hlate c1 s]; exact h1 s
   ·rw [if_neg (by rw [hcR, decide_eq_false (by omega)]; simp)]; exact h2
  by_cases c2 : ky x ∈ ud
  ·have e : cstp at_ (ud, out) (l.length - 1 - k, x) = (ud, out) := by unfold cstp; rw [if_pos (.inr c2)]
   have e2 : cU at_ (ky x) (l.drop (l.length - k)) = true := by rw [← hk]; exact List.contains_iff_mem.2 c2
   rw [e]
   refine ⟨fun s => ?_, ?_⟩
   ·rw [cU, if_neg c1, e2]; simp only [Bool.not_true, Bool.and_false, Bool.false_or]; exact h1 s
   ·rw [if_neg (by rw [hcR, e2]; simp)]; exact h2
  ·have e2 : cU at_ (ky x) (l.drop (l.length - k)) = false := by rw [← hk, Bool.eq_false_iff]; exact fun h => c2 (List.contains_iff_mem.1 h)
   have e : cstp at_ (ud, out) (l.length - 1 - k, x) = (if x.kd = 7 then ud ++ [(x.of_, x.ot)] else ud, out ++ [((l.length - 1 - k : Nat) : Int)]) := by unfold cstp; rw [if_neg (fun h => h.elim c1 c2)]
   rw [e]
   refine ⟨fun s => ?_, ?_⟩
   ·rw [cU, if_neg c1, e2, Bool.not_false, Bool.and_true, ← h1 s]
    by_cases h7 : x.kd = 7
    ·rw [if_pos h7]
     by_cases hs7 : (x.of_, x.ot) = s
     ·subst hs7; simp [h7]
     ·rw [decide_eq_false (fun h => hs7 h.2), Bool.false_or, List.contains_eq_mem, List.contains_eq_mem]
      simp [Ne.symm hs7]
    ·rw [if_neg h7, decide_eq_false (fun h => h7 h.1), Bool.false_or]
   ·have hc : cR at_ (l.drop (l.length - 1 - k)) = true := by rw [hcR, e2, decide_eq_true (by omega)]; rfl
    rw [if_pos hc, List.map_cons, List.reverse_append, List.reverse_singleton, h2]; rfl
theorem cntP_doc {at_ : Int} {l : List Nt} (hs : ∀ i x y, l[i]? = some x → l[i + 1]? = some y → x.at_ ≤ y.at_) : cntP at_ l = ((List.range l.length).filter fun i => cR at_ (l.drop i)).map (fun i : Nat => (i : Int)) := by
 have := (cst_is (at_ := at_) hs l.length (Nat.le_refl _)).2
 rw [Nat.sub_self, List.drop_zero] at this
 exact this
end Go.Proofs.YtcchlddiggmcaaaGreatDoor
