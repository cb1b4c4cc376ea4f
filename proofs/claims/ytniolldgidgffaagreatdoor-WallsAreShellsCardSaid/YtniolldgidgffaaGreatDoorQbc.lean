/- Walls, by value. -/
import Derived.Test.YtniolldgidgffaaGreatDoorQbb
set_option linter.unusedSimpArgs false
set_option linter.unusedVariables false
/- Shrinking, by value. -/
-- NEWM
namespace Go.Proofs.YtniolldgidgffaaGreatDoor
open Go Go.RowKit
set_option maxRecDepth 100000
abbrev shrP (n : Nat) (L : List Spot) (q : Spot) : Bool := rowP n L q && colP n (L.filter (rowP n L)) q
abbrev shrL (n : Nat) (L : List Spot) : List Spot := L.filter (shrP n L)
theorem growf_v (va : Value) (ca : Cel) (ha : RCel ca) (n : Nat) (hn : n ≤ 20) : ACalls Tryz.prog 260 [celA va ca, .c (I n)] [] fun u H => u = .c (I 0) ∧ H = [] := by
 have ho : outB (n : Int) 0 20 = false := by simp [outB]; omega
 refine acalls_of (N := 13) Tryz.func260 rfl rfl (by simp) fun E hE => ?_
 refine WA ?_
 refine WR ?_
 refine al_ef rfl (ef_call0 false (fun _ => check_r va ca ha) rfl .fn rfl (by decide) (by kernel_rfl) rfl (fun _ => C0 rfl) (by simp)) ?_
 rintro _ _ ⟨_, _, _, ⟨rfl, rfl⟩, hF, hH⟩
 (refine NST hF hH ?_; clear hF hH; rintro rfl rfl)
 refine WE ?_
 refine WA ?_
 refine aw_cond_f rfl ?_
 refine ZZ ?_
 refine WR ?_
 refine al_ef rfl (ef_call0 false (fun _ => out_v _ _ _) rfl .fn rfl (by decide) (by kernel_rfl) rfl (fun _ => C0 rfl) (by simp)) ?_
 rintro _ _ ⟨_, _, _, ⟨rfl, rfl⟩, hF, hH⟩
 rw [ho] at hF
 (refine NST hF hH ?_; clear hF hH; rintro rfl rfl)
 refine WE ?_
 refine aw_cond_f rfl ?_
 refine ZZ ?_
 refine WA ?_
 exact aret_1 [] _ rfl rfl rfl (by decide) (ZNK rfl) (fun _ => .nil) ⟨rfl, rfl⟩
set_option maxHeartbeats 2000000 in
theorem shrunk_v (va : Value) (ca : Cel) (ha : RCel ca) (n : Nat) (hn : n ≤ 20) : ACalls Tryz.prog 221 [celA va ca, .c (I n)] [] fun u H => ∃ v', u = .t [celA v' (normC ca.st (shrL n (covL ca))).1, .c (I (normC ca.st (shrL n (covL ca))).2)] ∧ H = [] := by
 have hst := ha.st
 have hg := grdOf_ok ha
 have hat := at_cov ha
 have hst0 := grdOf_st ca
 have hnf : normC (filG (grdOf ca) (rowP n (covL ca))).st (covG (filG (filG (grdOf ca) (rowP n (covL ca))) (colP n ((covL ca).filter (rowP n (covL ca)))))) = normC ca.st (shrL n (covL ca)) := by
  show normC (grdOf ca).st _ = _
  rw [grdOf_st]
  exact normC_mem fun q => by rw [filG_cov, filG_cov, grdOf_cov ha, List.mem_filter, Bool.and_eq_true, and_assoc]
 have hat1 : ∀ a b, atG (filG (grdOf ca) (rowP n (covL ca))) a b = decide ((a, b) ∈ (covL ca).filter (rowP n (covL ca))) := fun a b => by
  rw [atG_eq (filG_ok hg _).len]
  simp only [filG_cov, grdOf_cov ha, List.mem_filter]
 have hg1 := filG_ok hg (rowP n (covL ca))
 generalize normC ca.st (shrL n (covL ca)) = R at *
 generalize (covL ca).filter (rowP n (covL ca)) = Lr at *
 refine acalls_of (N := 47) Tryz.func221 rfl rfl (by simp) fun E hE => ?_
 refine WA ?_
 refine WR ?_
 refine al_ef rfl (ef_call0 false (fun _ => growf_v va ca ha n hn) rfl .fn rfl (by decide) (by kernel_rfl) rfl (fun _ => C0 rfl) (by simp)) ?_
 rintro _ _ ⟨_, _, _, ⟨rfl, rfl⟩, hF, hH⟩
 (refine NST hF hH ?_; clear hF hH; rintro rfl rfl)
 refine WE ?_
 refine WA ?_
 refine aw_cond_f rfl ?_
 refine ZZ ?_
 refine WR ?_
 refine al_ef rfl (ef_call0 false (fun _ => gridof_v va ca ha) rfl .fn rfl (by decide) (by kernel_rfl) rfl (fun _ => C0 rfl) (by simp)) ?_
 rintro _ _ ⟨_, _, _, ⟨pv, v, rfl, rfl⟩, hF, hH⟩
 (refine NST hF hH ?_; clear hF hH; rintro rfl rfl)
 refine WE ?_
 generalize hL : covL ca = L at *
 generalize grdOf ca = g at *
 refine aw_cut (fun F H => F = [(3, .p 0 0 0), (4, .p 1 0 0), (7, .p 2 0 0), (8, .p 5 0 0)] ∧ H = [.box [.c (I n)], .box [.c (I 0), .c (I 0), .c (I 0), .c (.r (.slice none 0 0) [])], .box [gV pv v g], gB g.st g.x g.y g.w g.h 4 (g.w * g.h), gArr (g.w * g.h) (filK g (rowP n L) 0), .box [.p 3 0 0]]) ?_ ?_ wk_aw
 ·have hf0 : filK g (rowP n L) 0 = List.replicate (g.w * g.h) false := by rw [filK_0, hg.len]
  refine ZZ ?_
  refine aw_regionM [[(0, none), (1, none), (2, none), (3, none), (4, none), (5, none), (6, none), (7, none), (8, none), (9, none), (10, none), (11, none), (12, none), (13, none), (14, none), (15, none), (16, none), (17, none), (18, none), (19, none), (20, some []), (21, some [0, 1, 2, 3, 4, 5, 6, 7, 8, 9, 10, 11, 12, 13, 14, 15, 16, 17, 18, 19]), (22, some [])], [(0, none), (1, none), (2, none), (3, none), (4, none), (5, none), (6, none), (7, none), (8, none), (9, none), (10, none), (11, none), (12, none), (13, none), (14, none), (15, none), (16, none), (17, none), (18, none), (19, none), (21, some [0, 1, 2, 3, 4, 5, 6, 7, 8, 9, 10, 11, 12, 13, 14, 15, 16, 17, 18, 19]), (20, some []), (22, some [])]] hMixed (by kernel_rfl) ?_
  focus
   refine WM ?_
   refine am_two (by rfl) (by rfl) (by rfl) ?_ ?_
   rotate_left
   refine WM ?_
   refine am_ef (i := 20) (by rfl) (by rfl) rfl rfl (ef_call0 false (fun _ => newgrid_v g.st g.x g.y g.w g.h hg.w hg.h) rfl .fn rfl (by decide) (by kernel_rfl) rfl (fun _ => C0 rfl) (by simp)) ?_
   rintro _ _ ⟨_, _, _, ⟨rfl, rfl⟩, hF, hH⟩
   (refine NST hF hH ?_; clear hF hH; rintro rfl rfl)
   refine ⟨AGX, ?_⟩
   refine WN ?_
   rotate_right
   refine am_ef (i := 20) (by rfl) (by rfl) rfl rfl (ef_call0 false (fun _ => newgrid_v g.st g.x g.y g.w g.h hg.w hg.h) rfl .fn rfl (by decide) (by kernel_rfl) rfl (fun _ => C0 rfl) (by simp)) ?_
   rintro _ _ ⟨_, _, _, ⟨rfl, rfl⟩, hF, hH⟩
   (refine NST hF hH ?_; clear hF hH; rintro rfl rfl)
   refine ⟨AGX, ?_⟩
   refine WN ?_
  ·exact wk_of [some 1, some 2, some 3, some 4, some 5, some 6] (fun _ => [(3, .p 0 0 0), (4, .p 1 0 0), (7, .p 2 0 0), (8, .p 5 0 0)]) (fun _ => [.box [.c (I n)], .box [.c (I 0), .c (I 0), .c (I 0), .c (.r (.slice none 0 0) [])], .box [gV pv v g], gB g.st g.x g.y g.w g.h 4 (g.w * g.h), gArr (g.w * g.h) (filK g (rowP n L) 0), .box [.p 3 0 0]]) (by decide) (ZNL hE) ZCF (by rw [hf0]; exact ZCH) (fun _ => ⟨rfl, rfl⟩)
  ·exact wk_of [some 1, some 2, some 3, some 5, some 6, some 4] (fun _ => [(3, .p 0 0 0), (4, .p 1 0 0), (7, .p 2 0 0), (8, .p 5 0 0)]) (fun _ => [.box [.c (I n)], .box [.c (I 0), .c (I 0), .c (I 0), .c (.r (.slice none 0 0) [])], .box [gV pv v g], gB g.st g.x g.y g.w g.h 4 (g.w * g.h), gArr (g.w * g.h) (filK g (rowP n L) 0), .box [.p 3 0 0]]) (by decide) (ZNL hE) ZCF (by rw [hf0]; exact ZCH) (fun _ => ⟨rfl, rfl⟩)
 rintro F H ⟨rfl, rfl⟩
 refine ZZ ?_
 refine WR ?_
 refine al_ef rfl (ef_call [0, 2, 5, 3, 4] (fun _ => [.box [.c (I n)], .box [gV pv v g], .box [.p 3 0 0], gB g.st g.x g.y g.w g.h 4 (g.w * g.h), gArr (g.w * g.h) (filK g (rowP n L) 0)]) false (fun _ => each_shrunk g pv v n hn L hat hg) rfl .fn rfl (by decide) (by kernel_rfl) rfl ZCH (by decide) ZCH (by simp)) ?_
 rintro F1 H1 ⟨_, _, _, _, ⟨rfl, rfl⟩, hF, hH⟩
 (refine NSU hF hH ?_; clear hF hH; rintro rfl rfl)
 refine WE ?_
 generalize hg1e : filG g (rowP n L) = g1 at *
 have hst1 : g1.st = ca.st := by rw [← hg1e]; exact hst0
 have hw1 : g1.st = g.st ∧ g1.x = g.x ∧ g1.y = g.y ∧ g1.w = g.w ∧ g1.h = g.h := by rw [← hg1e]; exact ⟨rfl, rfl, rfl, rfl, rfl⟩
 obtain ⟨w1, w2, w3, w4, w5⟩ := hw1
 have hln := hg1.len
 rw [← w1, ← w2, ← w3, ← w4, ← w5]
 refine aw_wk (wk_of (K := fun F H => ∃ pn pa p2 o2, F = [(3, .c (.p pn [I n])), (4, .p 0 0 0), (8, .c (.p pa [.p p2 (gRow g1 o2)]))] ∧ H = [.box [.c (I 0), .c (I 0), .c (I 0), .c (.r (.slice none 0 0) [])]]) [some 1] (fun f => [(3, .c (.p (f (.p 0 0 0)) [I n])), (4, .p 0 0 0), (8, .c (.p (f (.p 5 0 0)) [.p (f (.p 3 0 0)) (gRow g1 (f (.o 4 0 (g1.w * g1.h) (g1.w * g1.h))))]))]) (fun _ => [.box [.c (I 0), .c (I 0), .c (I 0), .c (.r (.slice none 0 0) [])]]) (by decide) (ZNL hE) (fun _ => .cons rfl (frzpL rfl rfl (.cons (.c rfl) .nil)) (.cons rfl (.p rfl) (.cons rfl (frzpL rfl rfl (.cons (frzG rfl rfl hln rfl rfl) .nil)) .nil))) ZCH (fun _ => ⟨_, _, _, _, rfl, rfl⟩)) ?_
 rintro F H ⟨pn, pa, p2, o2, rfl, rfl⟩
 refine ZR ?_
 refine ZA (rd_ldcp rfl (by kernel_rfl) rfl rfl) ?_
 refine WO ?_
 refine al_ef rfl (ef_call0 false (fun _ => chosen2_v 262 (.func 262) (.p pn [I n]) (.p pa [.p p2 (gRow g1 o2)]) (fun (vs : List AV) => vs ++ [AV.c (CV.p pn [I n]), AV.c (CV.p pa [CV.p p2 (gRow g1 o2)])]) (colP n Lr) (by kernel_rfl) (fun F x vs h => .clo h) (fun _ _ => rfl) (fun a b h1 h2 => shrunk2_v n hn pn pa p2 o2 Lr g1 hg1 hat1 a b (by omega) (by omega)) g1 p2 o2 hg1 (by rw [hst1]; omega)) rfl .fn rfl (by decide) (by kernel_rfl) rfl (fun _ => C0 rfl) (by simp)) ?_
 rintro _ _ ⟨_, _, _, ⟨v', rfl, rfl⟩, hF, hH⟩
 rw [hnf] at hF
 (refine NST hF hH ?_; clear hF hH; rintro rfl rfl)
 refine WE ?_
 exact aret_of (us := [celA v' R.1, .c (I R.2)]) [] (fun _ => .t [celA v' R.1, .c (I R.2)]) (fun _ => []) (.cella (n := 4) rfl (by kernel_rfl) (Cells.box rfl) (by simp) (by (try simp only [nm, putL, Nat.reduceAdd, cellsOf, cvOf]) <;> rfl) (.tmp rfl .nil)) (by decide) (fun i hi => absurd hi (Nat.not_lt_zero i)) (fun g' => .tL (.cons (.aL (.cons (.c rfl) (.cons (.c rfl) (.cons (.c rfl) (.cons (.c rfl) .nil))))) (.cons (.c rfl) .nil))) (fun _ => .nil) (fun g' => ⟨v', rfl, rfl⟩)
end Go.Proofs.YtniolldgidgffaaGreatDoor

/- Walls of near cells: shrinking and minus without faults, by value. -/
-- NEWM
namespace Go.Proofs.YtniolldgidgffaaGreatDoor
open Go Go.RowKit
set_option maxRecDepth 100000
theorem fshr_v (va : Value) (ca : Cel) (h : NCel ca) (n : Nat) (hn : n ≤ 20) : ACalls Tryz.prog 175 [celA va ca, .c (I n)] [] fun u H => ∃ v', u = celA v' (celN ca.st (shrL n (covL ca))) ∧ H = [] := by
 have hok := (normC_ok h (L := shrL n (covL ca)) (fun p hp => (List.mem_filter.1 hp).1)).1
 generalize celN ca.st (shrL n (covL ca)) = R at *
 refine acalls_of (N := 12) Tryz.func175 rfl rfl (by simp) fun E hE => ?_
 refine WA ?_
 refine WR ?_
 refine al_ef rfl (ef_call0 false (fun _ => shrunk_v va ca h.r n hn) rfl .fn rfl (by decide) (by kernel_rfl) rfl (fun _ => C0 rfl) (by simp)) ?_
 rintro _ _ ⟨_, _, _, ⟨v', rfl, rfl⟩, hF, hH⟩
 rw [hok] at hF
 (refine NST hF hH ?_; clear hF hH; rintro rfl rfl)
 refine WE ?_
 refine WA ?_
 exact aret_a [] [] rfl (k := 4) (by kernel_rfl) rfl (Cells.box rfl) (by simp) (by (try simp only [nm, putL, Nat.reduceAdd, cellsOf, cvOf]) <;> rfl) (by decide) (ZNK rfl) (fun _ => C0 rfl) (fun _ => .nil) ⟨v', rfl, rfl⟩
theorem fmin_v (va vb : Value) (ca cb : Cel) (ha : RCel ca) (hb : RCel cb) (hs : ca.st = cb.st) (hok : normC ca.st (minL (covL ca) (covL cb)) = (celN ca.st (minL (covL ca) (covL cb)), 0)) : ACalls Tryz.prog 112 [celA va ca, celA vb cb] [] fun u H => ∃ v', u = celA v' (celN ca.st (minL (covL ca) (covL cb))) ∧ H = [] := by
 generalize celN ca.st (minL (covL ca) (covL cb)) = R at *
 refine acalls_of (N := 14) Tryz.func112 rfl rfl (by simp) fun E hE => ?_
 refine WA ?_
 refine WR ?_
 refine al_ef rfl (ef_call0 false (fun _ => minus_v va vb ca cb ha hb hs) rfl .fn rfl (by decide) (by kernel_rfl) rfl (fun _ => C0 rfl) (by simp)) ?_
 rintro _ _ ⟨_, _, _, ⟨v', rfl, rfl⟩, hF, hH⟩
 rw [hok] at hF
 (refine NST hF hH ?_; clear hF hH; rintro rfl rfl)
 refine WE ?_
 refine WA ?_
 exact aret_a [] [] rfl (k := 4) (by kernel_rfl) rfl (Cells.box rfl) (by simp) (by (try simp only [nm, putL, Nat.reduceAdd, cellsOf, cvOf]) <;> rfl) (by decide) (ZNK rfl) (fun _ => C0 rfl) (fun _ => .nil) ⟨v', rfl, rfl⟩
end Go.Proofs.YtniolldgidgffaaGreatDoor

/- Walls of near cells, by value. -/
-- NEWM
namespace Go.Proofs.YtniolldgidgffaaGreatDoor
open Go Go.RowKit
set_option maxRecDepth 100000
theorem celN_st (st : Int) (L : List Spot) : (celN st L).st = st := by unfold celN; split <;> rfl
abbrev walC (c : Cel) (k : Nat) : Cel := celN c.st (minL (shrL k (covL c)) (shrL (k + 1) (covL c)))
theorem wal_eq {c : Cel} (h : NCel c) (k : Nat) : RCel (celN c.st (shrL k (covL c))) ∧ minL (covL (celN c.st (shrL k (covL c)))) (covL (celN c.st (shrL (k + 1) (covL c)))) ⊆ covL c ∧ celN c.st (minL (covL (celN c.st (shrL k (covL c)))) (covL (celN c.st (shrL (k + 1) (covL c))))) = walC c k := by
 have hst : 0 < c.st := by have := h.r.st; omega
 have hm : ∀ q, q ∈ minL (covL (celN c.st (shrL k (covL c)))) (covL (celN c.st (shrL (k + 1) (covL c)))) ↔ q ∈ minL (shrL k (covL c)) (shrL (k + 1) (covL c)) := fun q => by
  unfold minL
  rw [List.mem_filter, List.mem_filter, covL_celN hst]
  simp only [Bool.not_eq_true', decide_eq_false_iff_not, covL_celN hst]
 exact ⟨(normC_ok h (fun p hp => (List.mem_filter.1 hp).1)).2, fun p hp => (List.mem_filter.1 (List.mem_filter.1 ((hm p).1 hp)).1).1, celN_mem hm⟩
abbrev cR (l : List (Value × Cel)) : List (List CV) := l.map fun p => celR p.1 p.2
set_option maxHeartbeats 2000000 in
theorem walls_v (va : Value) (ca : Cel) (h : NCel ca) (n : Nat) (hn : n ≤ 10) : ACalls Tryz.prog 119 [celA va ca, .c (I n)] [] fun u H => ∃ (v w : Value) (lv : List (Value × Cel)), u = .t [.c (.r w (cR lv)), celA v (celN ca.st (shrL n (covL ca)))] ∧ lv.map Prod.snd = (List.range n).map (walC ca) ∧ H = [] := by
 refine acalls_of (N := 28) Tryz.func119 rfl rfl (by simp) fun E hE => ?_
 refine WA ?_
 refine WA ?_
 refine WA ?_
 refine aw_loopw (fun m F H => ∃ (k c : Nat) (lv : List (Value × Cel)), m + k = n ∧ lv.map Prod.snd = (List.range k).map (walC ca) ∧ F = [(1, .c (I n)), (2, .p 0 0 0), (5, .p 1 0 0), (6, .o 2 0 lv.length c), (8, .c (I n)), (9, .c (I (k : Nat)))] ∧ H = [celB va ca, .box [.c (I 0), .c (I 0), .c (I 0), .c (.r (.slice none 0 0) [])], .arr 28 4 c (cR lv)]) ?_ ?_
 ·refine wk_of [some 0, some 1, none] (fun _ => [(1, .c (I n)), (2, .p 0 0 0), (5, .p 1 0 0), (6, .o 2 0 0 0), (8, .c (I n)), (9, .c (I (0 : Nat)))]) (fun _ => [celB va ca, .box [.c (I 0), .c (I 0), .c (I 0), .c (.r (.slice none 0 0) [])], .arr 28 4 0 (cR [])]) (by decide) (ZNL hE) ZCF ZCH (fun _ => ?_)
  exact ⟨n, 0, 0, [], by omega, rfl, rfl, rfl⟩
 rintro m F H ⟨k, c, lv, hk, hlv, rfl, rfl⟩
 have hll : lv.length = k := by have := congrArg List.length hlv; simpa using this
 refine WA ?_
 refine aw_if rfl (fun hlt => ?_) (fun hge => ?_)
 ·obtain ⟨q1, q2, q3⟩ := wal_eq h k
  obtain ⟨q4, _, _⟩ := wal_eq h (k + 1)
  have hmin : ∀ v1 v2, ACalls Tryz.prog 112 [celA v1 (celN ca.st (shrL k (covL ca))), celA v2 (celN ca.st (shrL (k + 1) (covL ca)))] [] fun u H => ∃ v', u = celA v' (walC ca k) ∧ H = [] := fun v1 v2 => by
   have := fmin_v v1 v2 _ _ q1 q4 (by rw [celN_st, celN_st]) (by rw [celN_st]; exact (normC_ok h q2).1)
   rw [celN_st, q3] at this
   exact this
  have hnl : (List.range (k + 1)).map (walC ca) = (List.range k).map (walC ca) ++ [walC ca k] := by rw [List.range_succ, List.map_append]; rfl
  generalize walC ca k = W at *
  refine WA ?_
  refine ZZ ?_
  refine aw_regionT [(0, none), (1, none), (2, none), (4, none), (5, none), (6, none), (3, some [0, 4, 5, 6]), (7, some [0]), (8, some [0]), (9, some [0]), (10, some []), (11, none)] hMixed (by kernel_rfl) ?_
  refine WP ?_
  refine at_ef rfl rfl (ef_call0 false (fun _ => fshr_v va ca h k (by omega)) rfl .fn rfl (by decide) (by kernel_rfl) rfl (fun _ => C0 rfl) (by simp)) ?_
  rintro _ _ ⟨_, _, _, ⟨v1, rfl, rfl⟩, hF, hH⟩
  (refine NST hF hH ?_; clear hF hH; rintro rfl rfl)
  refine ⟨ag_cons (by first | exact ag_rd rfl rfl rfl (rd_move rfl rfl) rfl) (ag_cons (by first | exact ag_rd rfl rfl rfl (ZK (KK (t := 28) rfl)) rfl) (ag_cons (by first | exact ag_rd rfl rfl rfl (rd_move rfl rfl) rfl) (ag_cons (by first | exact ag_rd rfl rfl rfl (Zadd) rfl) (ag_none)))), ?_⟩
  refine at_ef rfl rfl (ef_call0 false (fun _ => fshr_v va ca h (k + 1) (by omega)) rfl .fn rfl (by decide) (by kernel_rfl) rfl (fun _ => C0 rfl) (by simp)) ?_
  rintro _ _ ⟨_, _, _, ⟨v2, rfl, rfl⟩, hF, hH⟩
  (refine NST hF hH ?_; clear hF hH; rintro rfl rfl)
  refine ⟨ag_cons (by first | exact ag_rd rfl rfl rfl (rd_move rfl rfl) rfl) (ag_none), ?_⟩
  refine at_ef rfl rfl (ef_call0 false (fun _ => hmin v1 v2) rfl .fn rfl (by decide) (by kernel_rfl) rfl (fun _ => C0 rfl) (by simp)) ?_
  rintro _ _ ⟨_, _, _, ⟨v3, rfl, rfl⟩, hF, hH⟩
  (refine NST hF hH ?_; clear hF hH; rintro rfl rfl)
  refine ⟨ag_cons (by first | exact ag_rd rfl rfl rfl (rd_move rfl rfl) rfl) (ag_none), ?_⟩
  refine WP ?_
  refine at_ef rfl rfl (Zapp (KA (t := 58) rfl)) ?_
  rintro _ _ ⟨_, cc, hcc, rfl, rfl⟩
  refine ⟨ag_none, ?_⟩
  refine WQ ?_
  all_goals (
   refine WA ?_
   refine wk_of [some 0, some 1, some 2] (fun _ => [(1, .c (I n)), (2, .p 0 0 0), (5, .p 1 0 0), (6, .o 2 0 (lv ++ [(v3, W)]).length cc), (8, .c (I n)), (9, .c (I (k + 1 : Nat)))]) (fun _ => [celB va ca, .box [.c (I 0), .c (I 0), .c (I 0), .c (.r (.slice none 0 0) [])], .arr 28 4 cc (cR (lv ++ [(v3, W)]))]) (by decide) (ZNL hE) ZCF ZCH (fun _ => ?_)
   exact ⟨m - 1, by omega, k + 1, cc, lv ++ [(v3, W)], by omega, by rw [List.map_append, hlv, hnl]; rfl, rfl, rfl⟩)
 obtain rfl : k = n := by omega
 refine ZZ ?_
 refine WR ?_
 refine al_ef rfl (ef_call0 false (fun _ => fshr_v va ca h k (by omega)) rfl .fn rfl (by decide) (by kernel_rfl) rfl (fun _ => C0 rfl) (by simp)) ?_
 rintro _ _ ⟨_, _, _, ⟨v1, rfl, rfl⟩, hF, hH⟩
 (refine NST hF hH ?_; clear hF hH; rintro rfl rfl)
 refine WE ?_
 exact aret_of (us := [.o 2 0 lv.length c, celA v1 (celN ca.st (shrL k (covL ca)))]) [] (fun f => .t [.c (.r (f (.o 2 0 lv.length c)) (cR lv)), celA v1 (celN ca.st (shrL k (covL ca)))]) (fun _ => []) (.tmp rfl (.cella (n := 4) rfl (by kernel_rfl) (Cells.box rfl) (by simp) (by (try simp only [nm, putL, Nat.reduceAdd, cellsOf, cvOf]) <;> rfl) .nil)) (by decide) (fun i hi => absurd hi (Nat.not_lt_zero i)) (fun g' => .tL (.cons (.frz rfl rfl (by rw [List.drop_zero, List.take_of_length_le (by simp)]) (by simp) rfl) (.cons (.aL (.cons (.c rfl) (.cons (.c rfl) (.cons (.c rfl) (.cons (.c rfl) .nil))))) .nil))) (fun _ => .nil) (fun g' => ⟨v1, _, lv, rfl, hlv, rfl⟩)
end Go.Proofs.YtniolldgidgffaaGreatDoor

/- Walls, by value. -/
-- NEWM
namespace Go.Proofs.YtniolldgidgffaaGreatDoor
open Go Go.RowKit
set_option maxRecDepth 100000
def walF (c : Cel) (n : Int) : Int := if celF c ≠ 0 then celF c else if outB n 0 10 = true then 1 else 0
set_option maxHeartbeats 2000000 in
theorem wallsT_v (va : Value) (ca : Cel) (n : Int) (hl : ca.rows.length ≤ 1000000000) (hr : ∀ r ∈ ca.rows, r.length ≤ 1000000000) (hnr : RCel ca → NCel ca) : ACalls Tryz.prog 46 [celA va ca, .c (I n)] [] fun u H => ∃ (v w : Value) (lv : List (Value × Cel)) (S : Cel), u = .t [.c (.r w (cR lv)), celA v S, .c (I (walF ca n))] ∧ (walF ca n ≠ 0 → lv = [] ∧ S = ⟨0, 0, 0, []⟩) ∧ (walF ca n = 0 → NCel ca ∧ ∃ k : Nat, n = k ∧ k ≤ 10 ∧ lv.map Prod.snd = (List.range k).map (walC ca) ∧ S = celN ca.st (shrL k (covL ca))) ∧ H = [] := by
 obtain ⟨q, hq⟩ : ∃ q, celF ca = q := ⟨_, rfl⟩
 have hwf : walF ca n = if q ≠ 0 then q else if outB n 0 10 = true then 1 else 0 := by rw [walF, hq]
 rw [hwf]
 refine acalls_of (N := 27) Tryz.func46 rfl rfl (by simp) fun E hE => ?_
 refine WA ?_
 refine WR ?_
 refine al_ef rfl (ef_call0 false (fun _ => check_v va ca hl hr) rfl .fn rfl (by decide) (by kernel_rfl) rfl (fun _ => C0 rfl) (by simp)) ?_
 rintro _ _ ⟨_, _, _, ⟨rfl, rfl⟩, hF, hH⟩
 rw [hq] at hF
 (refine NST hF hH ?_; clear hF hH; rintro rfl rfl)
 refine WE ?_
 refine WA ?_
 refine aw_if rfl (fun h1 => ?_) (fun h1 => ?_)
 ·rw [if_pos h1]
  refine WA ?_
  exact aret_of (us := [.c (.r (.slice none 0 0) []), .a [.c (I 0), .c (I 0), .c (I 0), .c (.r (.slice none 0 0) [])], .c (I q)]) [] (fun _ => .t [.c (.r (.slice none 0 0) []), .a [.c (I 0), .c (I 0), .c (I 0), .c (.r (.slice none 0 0) [])], .c (I q)]) (fun _ => []) (.tmp rfl (.cella (n := 4) rfl (by kernel_rfl) (Cells.box rfl) (by simp) (by (try simp only [nm, putL, Nat.reduceAdd, cellsOf, cvOf]) <;> rfl) (.tmp rfl .nil))) (by decide) (fun i hi => absurd hi (Nat.not_lt_zero i)) (fun g' => .tL (.cons (.c rfl) (.cons (.aL (.cons (.c rfl) (.cons (.c rfl) (.cons (.c rfl) (.cons (.c rfl) .nil))))) (.cons (.c rfl) .nil)))) (fun _ => .nil) (fun g' => ⟨.slice none 0 0, .slice none 0 0, [], ⟨0, 0, 0, []⟩, rfl, fun _ => ⟨rfl, rfl⟩, fun e => absurd e h1, rfl⟩)
 rw [if_neg h1]
 have hnc : NCel ca := hnr (celF_0.1 (by omega))
 refine ZZ ?_
 obtain ⟨b, ho⟩ : ∃ b, outB n 0 10 = b := ⟨_, rfl⟩
 rw [ho]
 cases b with
 | true =>
  refine WR ?_
  refine al_ef rfl (ef_call0 false (fun _ => out_v _ _ _) rfl .fn rfl (by decide) (by kernel_rfl) rfl (fun _ => C0 rfl) (by simp)) ?_
  rintro _ _ ⟨_, _, _, ⟨rfl, rfl⟩, hF, hH⟩
  rw [ho] at hF
  (refine NST hF hH ?_; clear hF hH; rintro rfl rfl)
  refine WE ?_
  refine aw_cond_t rfl ?_
  refine WA ?_
  exact aret_of (us := [.c (.r (.slice none 0 0) []), .a [.c (I 0), .c (I 0), .c (I 0), .c (.r (.slice none 0 0) [])], .c (I 1)]) [] (fun _ => .t [.c (.r (.slice none 0 0) []), .a [.c (I 0), .c (I 0), .c (I 0), .c (.r (.slice none 0 0) [])], .c (I 1)]) (fun _ => []) (.tmp rfl (.cella (n := 4) rfl (by kernel_rfl) (Cells.box rfl) (by simp) (by (try simp only [nm, putL, Nat.reduceAdd, cellsOf, cvOf]) <;> rfl) (.tmp rfl .nil))) (by decide) (fun i hi => absurd hi (Nat.not_lt_zero i)) (fun g' => .tL (.cons (.c rfl) (.cons (.aL (.cons (.c rfl) (.cons (.c rfl) (.cons (.c rfl) (.cons (.c rfl) .nil))))) (.cons (.c rfl) .nil)))) (fun _ => .nil) (fun g' => ⟨.slice none 0 0, .slice none 0 0, [], ⟨0, 0, 0, []⟩, rfl, fun _ => ⟨rfl, rfl⟩, fun e => absurd e (by simp), rfl⟩)
 | false =>
  have hn : 0 ≤ n ∧ n ≤ 10 := by simp [outB] at ho; exact ho
  obtain ⟨k, rfl⟩ : ∃ k : Nat, n = k := ⟨n.toNat, by omega⟩
  refine WR ?_
  refine al_ef rfl (ef_call0 false (fun _ => out_v _ _ _) rfl .fn rfl (by decide) (by kernel_rfl) rfl (fun _ => C0 rfl) (by simp)) ?_
  rintro _ _ ⟨_, _, _, ⟨rfl, rfl⟩, hF, hH⟩
  rw [ho] at hF
  (refine NST hF hH ?_; clear hF hH; rintro rfl rfl)
  refine WE ?_
  refine aw_cond_f rfl ?_
  refine ZZ ?_
  refine WR ?_
  refine al_ef rfl (ef_call0 false (fun _ => walls_v va ca hnc k (by omega)) rfl .fn rfl (by decide) (by kernel_rfl) rfl (fun _ => C0 rfl) (by simp)) ?_
  rintro _ _ ⟨_, _, _, ⟨v1, w1, lv, rfl, hlv, rfl⟩, hF, hH⟩
  (refine NST hF hH ?_; clear hF hH; rintro rfl rfl)
  refine WE ?_
  generalize hS : celN ca.st (shrL k (covL ca)) = S at *
  refine ZZ ?_
  refine aw_regionT [(0, none), (1, none), (2, none), (3, some []), (4, none)] hMixed (by kernel_rfl) ?_
  refine WQ ?_
  exact aret_of (us := [.c (.r w1 (cR lv)), .a [.c (I S.st), .c (I S.x), .c (I S.y), .c (.r v1 (tR S.rows))], .c (I 0)]) [] (fun _ => .t [.c (.r w1 (cR lv)), .a [.c (I S.st), .c (I S.x), .c (I S.y), .c (.r v1 (tR S.rows))], .c (I 0)]) (fun _ => []) (.tmp rfl (.cella (n := 4) rfl (by kernel_rfl) (Cells.box rfl) (by simp) (by (try simp only [nm, putL, Nat.reduceAdd, cellsOf, cvOf]) <;> rfl) (.tmp rfl .nil))) (by decide) (fun i hi => absurd hi (Nat.not_lt_zero i)) (fun g' => .tL (.cons (.c rfl) (.cons (.aL (.cons (.c rfl) (.cons (.c rfl) (.cons (.c rfl) (.cons (.c rfl) .nil))))) (.cons (.c rfl) .nil)))) (fun _ => .nil) (fun g' => ⟨v1, w1, lv, S, rfl, fun e => absurd rfl e, fun _ => ⟨hnc, k, rfl, by omega, hlv, hS.symm⟩, rfl⟩)
end Go.Proofs.YtniolldgidgffaaGreatDoor
