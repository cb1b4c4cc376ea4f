/- Walks through strings; sets of spots in the logic. -/
import Derived.Test.YtniolldgidgffaaGreatDoorQbc
import Derived.Test.YtniolldgidgffaaGreatDoorQba
import Derived.Test.YtniolldgidgffaaGreatDoorQao
set_option linter.unusedSimpArgs false
set_option linter.unusedVariables false
/- Shrinking, by value. -/
-- NEWM
namespace Go.Proofs.YtniolldgidgffaaGreatDoor
open Go Go.RowKit
set_option maxRecDepth 100000
abbrev shrP (n : Nat) (L : List Spot) (q : Spot) : Bool := rowP n L q && colP n (L.filter (rowP n L)) q
abbrev shrL (n : Nat) (L : List Spot) : List Spot := L.filter (shrP n L)
theorem growf_v (va : Value) (ca : Cel) (ha : RCel ca) (n : Nat) (hn : n ≤ 20) : ACalls Tryz.prog 260 [celA va ca, .c (I n)] [] fun u H => u = .c (I 0) ∧ H = [] := by
 have ho : outB (n : Int) 0 20 = false := by simp [outB]; omega
 refine acalls_of (N := 13) Tryz.func260 rfl rfl (by simp) fun E hE => ?_
 refine WA ?_
 refine WR ?_
 refine al_ef rfl (ef_call0 false (fun _ => check_r va ca ha) rfl .fn rfl (by decide) (by kernel_rfl) rfl (fun _ => C0 rfl) (by simp)) ?_
 rintro _ _ ⟨_, _, _, ⟨rfl, rfl⟩, hF, hH⟩
 (refine NST hF hH ?_; clear hF hH; rintro rfl rfl)
 refine WE ?_
 refine WA ?_
 refine aw_cond_f rfl ?_
 refine ZZ ?_
 refine WR ?_
 refine al_ef rfl (ef_call0 false (fun _ => out_v _ _ _) rfl .fn rfl (by decide) (by kernel_rfl) rfl (fun _ => C0 rfl) (by simp)) ?_
 rintro _ _ ⟨_, _, _, ⟨rfl, rfl⟩, hF, hH⟩
 rw [ho] at hF
 (refine NST hF hH ?_; clear hF hH; rintro rfl rfl)
 refine WE ?_
 refine aw_cond_f rfl ?_
 refine ZZ ?_
 refine WA ?_
 exact aret_1 [] _ rfl rfl rfl (by decide) (ZNK rfl) (fun _ => .nil) ⟨rfl, rfl⟩
set_option maxHeartbeats 2000000 in
theorem shrunk_v (va : Value) (ca : Cel) (ha : RCel ca) (n : Nat) (hn : n ≤ 20) : ACalls Tryz.prog 221 [celA va ca, .c (I n)] [] fun u H => ∃ v', u = .t [celA v' (normC ca.st (shrL n (covL ca))).1, .c (I (normC ca.st (shrL n (covL ca))).2)] ∧ H = [] := by
 have hst := ha.st
 have hg := grdOf_ok ha
 have hat := at_cov ha
 have hst0 := grdOf_st ca
 have hnf : normC (filG (grdOf ca) (rowP n (covL ca))).st (covG (filG (filG (grdOf ca) (rowP n (covL ca))) (colP n ((covL ca).filter (rowP n (covL ca)))))) = normC ca.st (shrL n (covL ca)) := by
  show normC (grdOf ca).st _ = _
  rw [grdOf_st]
  exact normC_mem fun q => by rw [filG_cov, filG_cov, grdOf_cov ha, List.mem_filter, Bool.and_eq_true, and_assoc]
 have hat1 : ∀ a b, atG (filG (grdOf ca) (rowP n (covL ca))) a b = decide ((a, b) ∈ (covL ca).filter (rowP n (covL ca))) := fun a b => by
  rw [atG_eq (filG_ok hg _).len]
  simp only [filG_cov, grdOf_cov ha, List.mem_filter]
 have hg1 := filG_ok hg (rowP n (covL ca))
 generalize normC ca.st (shrL n (covL ca)) = R at *
 generalize (covL ca).filter (rowP n (covL ca)) = Lr at *
 refine acalls_of (N := 47) Tryz.func221 rfl rfl (by simp) fun E hE => ?_
 refine WA ?_
 refine WR ?_
 refine al_ef rfl (ef_call0 false (fun _ => growf_v va ca ha n hn) rfl .fn rfl (by decide) (by kernel_rfl) rfl (fun _ => C0 rfl) (by simp)) ?_
 rintro _ _ ⟨_, _, _, ⟨rfl, rfl⟩, hF, hH⟩
 (refine NST hF hH ?_; clear hF hH; rintro rfl rfl)
 refine WE ?_
 refine WA ?_
 refine aw_cond_f rfl ?_
 refine ZZ ?_
 refine WR ?_
 refine al_ef rfl (ef_call0 false (fun _ => gridof_v va ca ha) rfl .fn rfl (by decide) (by kernel_rfl) rfl (fun _ => C0 rfl) (by simp)) ?_
 rintro _ _ ⟨_, _, _, ⟨pv, v, rfl, rfl⟩, hF, hH⟩
 (refine NST hF hH ?_; clear hF hH; rintro rfl rfl)
 refine WE ?_
 generalize hL : covL ca = L at *
 generalize grdOf ca = g at *
 refine aw_cut (fun F H => F = [(3, .p 0 0 0), (4, .p 1 0 0), (7, .p 2 0 0), (8, .p 5 0 0)] ∧ H = [.box [.c (I n)], .box [.c (I 0), .c (I 0), .c (I 0), .c (.r (.slice none 0 0) [])], .box [gV pv v g], gB g.st g.x g.y g.w g.h 4 (g.w * g.h), gArr (g.w * g.h) (filK g (rowP n L) 0), .box [.p 3 0 0]]) ?_ ?_ wk_aw
 ·have hf0 : filK g (rowP n L) 0 = List.replicate (g.w * g.h) false := by rw [filK_0, hg.len]
  refine ZZ ?_
  refine aw_regionM [[(0, none), (1, none), (2, none), (3, none), (4, none), (5, none), (6, none), (7, none), (8, none), (9, none), (10, none), (11, none), (12, none), (13, none), (14, none), (15, none), (16, none), (17, none), (18, none), (19, none), (20, some []), (21, some [0, 1, 2, 3, 4, 5, 6, 7, 8, 9, 10, 11, 12, 13, 14, 15, 16, 17, 18, 19]), (22, some [])], [(0, none), (1, none), (2, none), (3, none), (4, none), (5, none), (6, none), (7, none), (8, none), (9, none), (10, none), (11, none), (12, none), (13, none), (14, none), (15, none), (16, none), (17, none), (18, none), (19, none), (21, some [0, 1, 2, 3, 4, 5, 6, 7, 8, 9, 10, 11, 12, 13, 14, 15, 16, 17, 18, 19]), (20, some []), (22, some [])]] hMixed (by kernel_rfl) ?_
  focus
   refine WM ?_
   refine am_two (by rfl) (by rfl) (by rfl) ?_ ?_
   rotate_left
   refine WM ?_
   refine am_ef (i := 20) (by rfl) (by rfl) rfl rfl (ef_call0 false (fun _ => newgrid_v g.st g.x g.y g.w g.h hg.w hg.h) rfl .fn rfl (by decide) (by kernel_rfl) rfl (fun _ => C0 rfl) (by simp)) ?_
   rintro _ _ ⟨_, _, _, ⟨rfl, rfl⟩, hF, hH⟩
   (refine NST hF hH ?_; clear hF hH; rintro rfl rfl)
   refine ⟨AGX, ?_⟩
   refine WN ?_
   rotate_right
   refine am_ef (i := 20) (by rfl) (by rfl) rfl rfl (ef_call0 false (fun _ => newgrid_v g.st g.x g.y g.w g.h hg.w hg.h) rfl .fn rfl (by decide) (by kernel_rfl) rfl (fun _ => C0 rfl) (by simp)) ?_
   rintro _ _ ⟨_, _, _, ⟨rfl, rfl⟩, hF, hH⟩
   (refine NST hF hH ?_; clear hF hH; rintro rfl rfl)
   refine ⟨AGX, ?_⟩
   refine WN ?_
  ·exact wk_of [some 1, some 2, some 3, some 4, some 5, some 6] (fun _ => [(3, .p 0 0 0), (4, .p 1 0 0), (7, .p 2 0 0), (8, .p 5 0 0)]) (fun _ => [.box [.c (I n)], .box [.c (I 0), .c (I 0), .c (I 0), .c (.r (.slice none 0 0) [])], .box [gV pv v g], gB g.st g.x g.y g.w g.h 4 (g.w * g.h), gArr (g.w * g.h) (filK g (rowP n L) 0), .box [.p 3 0 0]]) (by decide) (ZNL hE) ZCF (by rw [hf0]; exact ZCH) (fun _ => ⟨rfl, rfl⟩)
  ·exact wk_of [some 1, some 2, some 3, some 5, some 6, some 4] (fun _ => [(3, .p 0 0 0), (4, .p 1 0 0), (7, .p 2 0 0), (8, .p 5 0 0)]) (fun _ => [.box [.c (I n)], .box [.c (I 0), .c (I 0), .c (I 0), .c (.r (.slice none 0 0) [])], .box [gV pv v g], gB g.st g.x g.y g.w g.h 4 (g.w * g.h), gArr (g.w * g.h) (filK g (rowP n L) 0), .box [.p 3 0 0]]) (by decide) (ZNL hE) ZCF (by rw [hf0]; exact ZCH) (fun _ => ⟨rfl, rfl⟩)
 rintro F H ⟨rfl, rfl⟩
 refine ZZ ?_
 refine WR ?_
 refine al_ef rfl (ef_call [0, 2, 5, 3, 4] (fun _ => [.box [.c (I n)], .box [gV pv v g], .box [.p 3 0 0], gB g.st g.x g.y g.w g.h 4 (g.w * g.h), gArr (g.w * g.h) (filK g (rowP n L) 0)]) false (fun _ => each_shrunk g pv v n hn L hat hg) rfl .fn rfl (by decide) (by kernel_rfl) rfl ZCH (by decide) ZCH (by simp)) ?_
 rintro F1 H1 ⟨_, _, _, _, ⟨rfl, rfl⟩, hF, hH⟩
 (refine NSU hF hH ?_; clear hF hH; rintro rfl rfl)
 refine WE ?_
 generalize hg1e : filG g (rowP n L) = g1 at *
 have hst1 : g1.st = ca.st := by rw [← hg1e]; exact hst0
 have hw1 : g1.st = g.st ∧ g1.x = g.x ∧ g1.y = g.y ∧ g1.w = g.w ∧ g1.h = g.h := by rw [← hg1e]; exact ⟨rfl, rfl, rfl, rfl, rfl⟩
 obtain ⟨w1, w2, w3, w4, w5⟩ := hw1
 have hln := hg1.len
 rw [← w1, ← w2, ← w3, ← w4, ← w5]
 refine aw_wk (wk_of (K := fun F H => ∃ pn pa p2 o2, F = [(3, .c (.p pn [I n])), (4, .p 0 0 0), (8, .c (.p pa [.p p2 (gRow g1 o2)]))] ∧ H = [.box [.c (I 0), .c (I 0), .c (I 0), .c (.r (.slice none 0 0) [])]]) [some 1] (fun f => [(3, .c (.p (f (.p 0 0 0)) [I n])), (4, .p 0 0 0), (8, .c (.p (f (.p 5 0 0)) [.p (f (.p 3 0 0)) (gRow g1 (f (.o 4 0 (g1.w * g1.h) (g1.w * g1.h))))]))]) (fun _ => [.box [.c (I 0), .c (I 0), .c (I 0), .c (.r (.slice none 0 0) [])]]) (by decide) (ZNL hE) (fun _ => .cons rfl (frzpL rfl rfl (.cons (.c rfl) .nil)) (.cons rfl (.p rfl) (.cons rfl (frzpL rfl rfl (.cons (frzG rfl rfl hln rfl rfl) .nil)) .nil))) ZCH (fun _ => ⟨_, _, _, _, rfl, rfl⟩)) ?_
 rintro F H ⟨pn, pa, p2, o2, rfl, rfl⟩
 refine ZR ?_
 refine ZA (rd_ldcp rfl (by kernel_rfl) rfl rfl) ?_
 refine WO ?_
 refine al_ef rfl (ef_call0 false (fun _ => chosen2_v 262 (.func 262) (.p pn [I n]) (.p pa [.p p2 (gRow g1 o2)]) (fun (vs : List AV) => vs ++ [AV.c (CV.p pn [I n]), AV.c (CV.p pa [CV.p p2 (gRow g1 o2)])]) (colP n Lr) (by kernel_rfl) (fun F x vs h => .clo h) (fun _ _ => rfl) (fun a b h1 h2 => shrunk2_v n hn pn pa p2 o2 Lr g1 hg1 hat1 a b (by omega) (by omega)) g1 p2 o2 hg1 (by rw [hst1]; omega)) rfl .fn rfl (by decide) (by kernel_rfl) rfl (fun _ => C0 rfl) (by simp)) ?_
 rintro _ _ ⟨_, _, _, ⟨v', rfl, rfl⟩, hF, hH⟩
 rw [hnf] at hF
 (refine NST hF hH ?_; clear hF hH; rintro rfl rfl)
 refine WE ?_
 exact aret_of (us := [celA v' R.1, .c (I R.2)]) [] (fun _ => .t [celA v' R.1, .c (I R.2)]) (fun _ => []) (.cella (n := 4) rfl (by kernel_rfl) (Cells.box rfl) (by simp) (by (try simp only [nm, putL, Nat.reduceAdd, cellsOf, cvOf]) <;> rfl) (.tmp rfl .nil)) (by decide) (fun i hi => absurd hi (Nat.not_lt_zero i)) (fun g' => .tL (.cons (.aL (.cons (.c rfl) (.cons (.c rfl) (.cons (.c rfl) (.cons (.c rfl) .nil))))) (.cons (.c rfl) .nil))) (fun _ => .nil) (fun g' => ⟨v', rfl, rfl⟩)
end Go.Proofs.YtniolldgidgffaaGreatDoor

/- Walls of near cells: shrinking and minus without faults, by value. -/
-- NEWM
namespace Go.Proofs.YtniolldgidgffaaGreatDoor
open Go Go.RowKit
set_option maxRecDepth 100000
theorem fshr_v (va : Value) (ca : Cel) (h : NCel ca) (n : Nat) (hn : n ≤ 20) : ACalls Tryz.prog 175 [celA va ca, .c (I n)] [] fun u H => ∃ v', u = celA v' (celN ca.st (shrL n (covL ca))) ∧ H = [] := by
 have hok := (normC_ok h (L := shrL n (covL ca)) (fun p hp => (List.mem_filter.1 hp).1)).1
 generalize celN ca.st (shrL n (covL ca)) = R at *
 refine acalls_of (N := 12) Tryz.func175 rfl rfl (by simp) fun E hE => ?_
 refine WA ?_
 refine WR ?_
 refine al_ef rfl (ef_call0 false (fun _ => shrunk_v va ca h.r n hn) rfl .fn rfl (by decide) (by kernel_rfl) rfl (fun _ => C0 rfl) (by simp)) ?_
 rintro _ _ ⟨_, _, _, ⟨v', rfl, rfl⟩, hF, hH⟩
 rw [hok] at hF
 (refine NST hF hH ?_; clear hF hH; rintro rfl rfl)
 refine WE ?_
 refine WA ?_
 exact aret_a [] [] rfl (k := 4) (by kernel_rfl) rfl (Cells.box rfl) (by simp) (by (try simp only [nm, putL, Nat.reduceAdd, cellsOf, cvOf]) <;> rfl) (by decide) (ZNK rfl) (fun _ => C0 rfl) (fun _ => .nil) ⟨v', rfl, rfl⟩
theorem fmin_v (va vb : Value) (ca cb : Cel) (ha : RCel ca) (hb : RCel cb) (hs : ca.st = cb.st) (hok : normC ca.st (minL (covL ca) (covL cb)) = (celN ca.st (minL (covL ca) (covL cb)), 0)) : ACalls Tryz.prog 112 [celA va ca, celA vb cb] [] fun u H => ∃ v', u = celA v' (celN ca.st (minL (covL ca) (covL cb))) ∧ H = [] := by
 generalize celN ca.st (minL (covL ca) (covL cb)) = R at *
 refine acalls_of (N := 14) Tryz.func112 rfl rfl (by simp) fun E hE => ?_
 refine WA ?_
 refine WR ?_
 refine al_ef rfl (ef_call0 false (fun _ => minus_v va vb ca cb ha hb hs) rfl .fn rfl (by decide) (by kernel_rfl) rfl (fun _ => C0 rfl) (by simp)) ?_
 rintro _ _ ⟨_, _, _, ⟨v', rfl, rfl⟩, hF, hH⟩
 rw [hok] at hF
 (refine NST hF hH ?_; clear hF hH; rintro rfl rfl)
 refine WE ?_
 refine WA ?_
 exact aret_a [] [] rfl (k := 4) (by kernel_rfl) rfl (Cells.box rfl) (by simp) (by (try simp only [nm, putL, Nat.reduceAdd, cellsOf, cvOf]) <;> rfl) (by decide) (ZNK rfl) (fun _ => C0 rfl) (fun _ => .nil) ⟨v', rfl, rfl⟩
end Go.Proofs.YtniolldgidgffaaGreatDoor

/- Walls of near cells, by value. -/
-- NEWM
namespace Go.Proofs.YtniolldgidgffaaGreatDoor
open Go Go.RowKit
set_option maxRecDepth 100000
theorem celN_st (st : Int) (L : List Spot) : (celN st L).st = st := by unfold celN; split <;> rfl
abbrev cR (l : List (Value × Cel)) : List (List CV) := l.map fun p => celR p.1 p.2
end Go.Proofs.YtniolldgidgffaaGreatDoor

/- Walls, by value. -/
-- NEWM
namespace Go.Proofs.YtniolldgidgffaaGreatDoor
open Go Go.RowKit
set_option maxRecDepth 100000
end Go.Proofs.YtniolldgidgffaaGreatDoor

/- Grids of layers; what is wrong with layers, by value. -/
-- NEWM
namespace Go.Proofs.YtniolldgidgffaaGreatDoor
open Go Go.RowKit
set_option maxRecDepth 100000
end Go.Proofs.YtniolldgidgffaaGreatDoor

/- What is wrong with layers and styles, by value. -/
-- NEWM
namespace Go.Proofs.YtniolldgidgffaaGreatDoor
open Go Go.RowKit
set_option maxRecDepth 100000
end Go.Proofs.YtniolldgidgffaaGreatDoor

/- Solid cells, by value: the closure. -/
-- NEWM
namespace Go.Proofs.YtniolldgidgffaaGreatDoor
open Go Go.RowKit
set_option maxRecDepth 100000
end Go.Proofs.YtniolldgidgffaaGreatDoor

/- Solid cells, by value. -/
-- NEWM
namespace Go.Proofs.YtniolldgidgffaaGreatDoor
open Go Go.RowKit
set_option maxRecDepth 100000
end Go.Proofs.YtniolldgidgffaaGreatDoor

/- Solid, by value. -/
-- NEWM
namespace Go.Proofs.YtniolldgidgffaaGreatDoor
open Go Go.RowKit
set_option maxRecDepth 100000
end Go.Proofs.YtniolldgidgffaaGreatDoor

/- Walks through strings; sets of spots in the logic. -/
namespace Go.Proofs.YtniolldgidgffaaGreatDoor
open Go Go.RowKit
section
variable {P : Program} {N : Nat} {E : Env} {F : Fm} {H : List OB} {o : Oper} {S : Nat → Prop} {ρ : List (Option Nat)} {a : Act} {w : World} {t : TypeId} {x y : Operand}
theorem ef_ranges {d : Nat} {l : List UInt8} (ho : o.op = .range t x) (hd : o.dst = some d) (hN : d < N) (ht : P.underlying t = some .string) (hx : ev F x = some (.c (T l))) :
    Ef P N E o F H fun F' H' => F' = (d, .p H.length 0 0) :: F ∧ H' = H ++ [.sit (bst l) 0] :=
 ef_of hd hN ⟨rfl, rfl⟩ fun S ρ a w hR => by
  have h1 := (hR.ev hx).1
  simp only [AV.den, CV.den] at h1
  refine ⟨S, ρ ++ [some w.heap.size], w.alloc (.stringIter (bst l) 0), ?_, ?_, wf_snoc_p hR.hp _⟩
  ·rw [den_snoc_p hR.hp]
   simp only [execOp, ho, h1, Instr.range, Sem.run_bind, st_under ht, Result.andThen_ok, Sem.run_pure, run_newObj, World.alloc_eq]
  ·exact hR.newO _ (.sit (bst l) 0) ⟨_, rfl, by rw [heap_new]⟩
theorem decode_bst {l : List UInt8} {k : Nat} {b : UInt8} (hb : l[k]? = some b) (h : b < 128) : Utf8.decode (bst l) k = (b.toNat, 1) := by
 have hk := (List.getElem?_eq_some_iff.1 hb).1
 have h0 : ((bst l).get! (k + 0)).toNat = b.toNat := by
  congr 1
  show (l.toArray)[k + 0]! = b
  simp [getElem!_def, hb]
 unfold Utf8.decode
 simp only [h0]
 have : b.toNat < 128 := h
 rw [if_pos this]
theorem ef_nexts {bi d k : Nat} {l : List UInt8} {b : UInt8} (ho : o.op = .next x true) (hd : o.dst = some d) (hN : d < N) (hx : ev F x = some (.p bi 0 0)) (hi : H[bi]? = some (.sit (bst l) k)) (hb : l[k]? = some b) (h8 : b < 128) :
    Ef P N E o F H fun F' H' => F' = (d, .t [.c (.s (.bool true)), .c (.s (.int .i64 k)), .c (.s (.int .i32 b.toNat))]) :: F ∧ H' = H.set bi (.sit (bst l) (k + 1)) := fun S ρ a w hR => by
 obtain ⟨h1, _⟩ := hR.ev hx
 obtain ⟨Bi, i1, i2⟩ := hR.hp.blk bi _ hi
 have hz : szAt H bi = 0 := by unfold szAt; rw [hi]; rfl
 simp only [AV.den, i1, hz, Option.map_some, Nat.mul_zero, Nat.add_zero, Nat.zero_add] at h1
 have hk := (List.getElem?_eq_some_iff.1 hb).1
 have hg : (getObj Bi).run P w = .ok (.stringIter (bst l) k) w := by unfold getObj; simp [Sem.run, i2]
 have hs : (setObj Bi (.stringIter (bst l) (k + 1))).run P w = .ok () (putBlk w Bi (.stringIter (bst l) (k + 1))) := by unfold setObj; simp [Sem.run, i2, putBlk]
 unfold effO
 have hex : (execOp a.eval o).run P w = .ok (.value (.tuple #[.bool true, .int .i64 k, .int .i32 b.toNat])) (putBlk w Bi (.stringIter (bst l) (k + 1))) := by
  simp only [execOp, ho, h1, Instr.next, Sem.run_bind, hg, Result.andThen_ok]
  rw [if_pos (by rw [bst_size]; exact hk), decode_bst hb h8]
  simp only [Sem.run_bind, hs, Result.andThen_ok, Sem.run_pure]
  rfl
 rw [hex]
 refine ⟨S, ρ, _, _, ⟨rfl, rfl⟩, ?_⟩
 rw [hd]
 have hset := R.set (ob := .sit (bst l) k) (ob' := .sit (bst l) (k + 1)) (cob := .stringIter (bst l) (k + 1)) hR hi i1 rfl rfl (fun h => absurd rfl h) (putBlk_size _ _) ⟨Bi, rfl, putBlk_at i2⟩
 have := hset.put (d := d) (x := .t [.c (.s (.bool true)), .c (.s (.int .i64 k)), .c (.s (.int .i32 b.toNat))]) hN (.t fun y hy => by
  simp only [List.mem_cons, List.not_mem_nil, or_false] at hy
  rcases hy with rfl | rfl | rfl <;> exact .c (.s _))
 simpa [AV.den, AV.denL, CV.den] using this
theorem ef_nexte {bi d k : Nat} {l : List UInt8} (ho : o.op = .next x true) (hd : o.dst = some d) (hN : d < N) (hx : ev F x = some (.p bi 0 0)) (hi : H[bi]? = some (.sit (bst l) k)) (hk : l.length ≤ k) :
    Ef P N E o F H fun F' H' => F' = (d, .t [.c (.s (.bool false))]) :: F ∧ H' = H := fun S ρ a w hR => by
 obtain ⟨h1, _⟩ := hR.ev hx
 obtain ⟨Bi, i1, i2⟩ := hR.hp.blk bi _ hi
 have hz : szAt H bi = 0 := by unfold szAt; rw [hi]; rfl
 simp only [AV.den, i1, hz, Option.map_some, Nat.mul_zero, Nat.add_zero, Nat.zero_add] at h1
 have hg : (getObj Bi).run P w = .ok (.stringIter (bst l) k) w := by unfold getObj; simp [Sem.run, i2]
 unfold effO
 have hex : (execOp a.eval o).run P w = .ok (.value (.tuple #[.bool false])) w := by
  simp only [execOp, ho, h1, Instr.next, Sem.run_bind, hg, Result.andThen_ok]
  rw [if_neg (by rw [bst_size]; omega)]
  rfl
 rw [hex]
 refine ⟨S, ρ, _, _, ⟨rfl, rfl⟩, ?_⟩
 rw [hd]
 exact hR.put (x := .t [.c (.s (.bool false))]) hN (.t fun y hy => by rw [List.mem_singleton.1 hy]; exact .c (.s _))
theorem ef_nextP {bi b ck d : Nat} {seen : List Nat} {l : SE} {L : List Spot} (hok : SetOk l ck L) (ho : o.op = .next x false) (hd : o.dst = some d) (hN : d < N) (hx : ev F x = some (.p bi 0 0)) (hi : H[bi]? = some (.itr b ck seen ck)) (hH : H[b]? = some (mpO encP encT l ck)) :
    Ef P N E o F H fun F' H' => (∃ eb ex ey, (eb, (ex, ey), true) ∈ l ∧ eb ∉ seen ∧ F' = (d, .t [.c (.s (.bool true)), .a [.c (.s (.int .i64 ex)), .c (.s (.int .i64 ey))], .c (.s (.bool true))]) :: F ∧ H' = H.set bi (.itr b ck (seen ++ [eb]) ck)) ∨ ((∀ e ∈ l, e.1 ∈ seen) ∧ F' = (d, .t [.c (.s (.bool false))]) :: F ∧ H' = H) := fun S ρ a w hR => by
 refine effO_mono (fun a' w' hh => ?_) (ef_next (ke := encP) (ve := encT) ho hd hN hx hi hH hok.hb (Nat.le_refl _) S ρ a w hR)
 obtain ⟨S', ρ', F', H', hk, hR'⟩ := hh
 refine ⟨S', ρ', F', H', ?_, hR'⟩
 rcases hk with ⟨⟨eb, ⟨ex, ey⟩, v⟩, h1, h2, h3, h4⟩ | h
 ·obtain rfl : v = true := hok.hv _ h1
  exact .inl ⟨eb, ex, ey, h1, h2, h3, h4⟩
 ·exact .inr h
theorem rd_entryP {bi b ck eb : Nat} {ex ey : Int} {seen : List Nat} {l : SE} {L : List Spot} (hok : SetOk l ck L) (ho : o.op = .entry x) (hx : ev F x = some (.p bi 0 0)) (hi : H[bi]? = some (.itr b ck (seen ++ [eb]) ck)) (hH : H[b]? = some (mpO encP encT l ck)) (he : (eb, (ex, ey), true) ∈ l) :
    Rd P N E o F H (.t [.a [.c (.s (.int .i64 ex)), .c (.s (.int .i64 ey))], .c (.s (.bool true))]) :=
 rd_entry (ke := encP) (ve := encT) (e := (eb, (ex, ey), true)) ho hx hi hH he hok.nb
theorem rd_lookP {t kt et : TypeId} {ix : Operand} {b ck : Nat} {l : SE} {L : List Spot} {p q : Int} (hok : SetOk l ck L) (hk : KeyOk P kt encP) (ho : o.op = .lookup t x ix false) (ht : P.underlying t = some (.map kt et)) (hz : (P.info? et).bind (·.zero) = some (.bool false))
    (hx : ev F x = some (.mp b)) (hH : H[b]? = some (mpO encP encT l ck)) (hi : ev F ix = some (.a [.c (.s (.int .i64 p)), .c (.s (.int .i64 q))])) : Rd P N E o F H (.c (.s (.bool (decide ((p, q) ∈ L))))) := by
 have := rd_lookup (N := N) (E := E) (ke := encP) (ve := encT) (k := (p, q)) (z := false) hk ho ht hz hx hH hi (fun ρ H => by simp [AV.den, AV.denL, CV.den, encP])
 rw [hok.get] at this
 exact this
end
end Go.Proofs.YtniolldgidgffaaGreatDoor
