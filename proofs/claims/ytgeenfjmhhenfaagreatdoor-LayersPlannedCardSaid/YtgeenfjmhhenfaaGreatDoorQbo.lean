/- The reference's solid cells, by value: SolidOf. -/
import Derived.Test.YtgeenfjmhhenfaaGreatDoorQbn
set_option linter.unusedSimpArgs false
set_option linter.unusedVariables false
/- The reference's walls, by value: WallsOf. -/
-- NEWM
namespace Go.Proofs.YtgeenfjmhhenfaaGreatDoor
open Go Go.RowKit
set_option maxRecDepth 100000
theorem rcel_rows {c : Cel} (h : RCel c) : ∀ r ∈ c.rows, r.length ≤ 1000000 ∧ okB2 r = true := fun r hr => by
 have := h.w
 rw [(h.row r hr).1]; exact ⟨by omega, (h.row r hr).2⟩
theorem places_r (va : Value) (c : Cel) (h : RCel c) : ACalls Tryz.prog 79 [celA va c] [] fun u H => ∃ v, u = .c (.r v (sR (covL c))) ∧ H = [] := by
 have hst := h.st
 have h1 := h.far.1
 have h2 := h.far.2
 have h3 := h.h
 exact places_v va c (by omega) (by omega) (by omega) (by omega) fun r hr => by
  have := h.w
  rw [(h.row r hr).1]; omega
theorem covL_len {c : Cel} (h : RCel c) : (covL c).length ≤ 1000000000 := by
 have h1 := h.h
 have h2 := h.w
 have := hitC_len (x := c.x.tdiv c.st) (y := c.y.tdiv c.st) (rs := c.rows) (M := 1000) (fun r hr => by rw [(h.row r hr).1]; omega)
 have h3 := Nat.mul_le_mul_right 1000 h1
 show (hitC (c.x.tdiv c.st) (c.y.tdiv c.st) c.rows).length ≤ _
 omega
theorem shrunkby_r (va : Value) (c : Cel) (h : NCel c) (n : Nat) (hn : n ≤ 1000) : ACalls Tryz.prog 78 [celA va c, .c (I n)] [] fun u H => ∃ v', u = .t [celA v' (celN c.st (shrL n (covL c))), .c (I 0)] ∧ H = [] := by
 have hst := h.r.st
 have h1 := h.r.far.1
 have h2 := h.r.far.2
 have h3 := h.r.h
 have := shrunkby_v va c (by omega) h1 h2 (by omega) (rcel_rows h.r) n hn
 rw [(normC_ok h (fun p hp => (List.mem_filter.1 hp).1)).1] at this
 exact this
theorem depth_v (va : Value) (c : Cel) (h : NCel c) (n : Nat) (hn : n ≤ 1000) : ACalls Tryz.prog 77 [.c (I n), .p 0 0 0] [celB va c] fun u H => ∃ v', u = celA v' (celN c.st (shrL n (covL c))) ∧ H = [celB va c] := by
 refine acalls_of (N := 13) Tryz.func77 rfl rfl (by simp) fun E hE => ?_
 refine WA ?_
 refine WR ?_
 refine al_ef rfl (ef_call0 false (fun _ => shrunkby_r va c h n hn) rfl .fn rfl (by decide) (by kernel_rfl) rfl (fun _ => C0 rfl) (by simp)) ?_
 rintro _ _ ⟨_, _, _, ⟨v', rfl, rfl⟩, hF, hH⟩
 (refine NST hF hH ?_; clear hF hH; rintro rfl rfl)
 refine WE ?_
 refine WA ?_
 exact aret_a [some 0] [celB va c] rfl (KK (t := 28) rfl) rfl (Cells.box rfl) (by first | (simp; done) | exact Nat.le_refl 4) (by (try simp only [nm, putL, Nat.reduceAdd, cellsOf, cvOf]) <;> rfl) (by decide) (ZNK rfl) (fun _ => C0 rfl) ZCH ⟨v', rfl, rfl⟩
theorem notin_v (pv v : Value) (L : List Spot) (hl : L.length ≤ 1000000000) (x y : Int) : ACalls Tryz.prog 81 [.a [.c (I x), .c (I y)], .c (.p pv [.r v (sR L)])] [] fun u H => u = .c (B (!decide ((x, y) ∈ L))) ∧ H = [] := by
 refine acalls_of (N := 8) Tryz.func81 rfl rfl (by simp) fun E hE => ?_
 refine WA ?_
 refine ZR ?_
 refine ZA (rd_ldcp rfl (by kernel_rfl) rfl rfl) ?_
 refine WO ?_
 refine al_ef rfl (ef_call0 false (fun _ => haspl_v x y L v hl) rfl .fn rfl (by decide) (by kernel_rfl) rfl (fun _ => C0 rfl) (by simp)) ?_
 rintro _ _ ⟨_, _, _, ⟨rfl, rfl⟩, hF, hH⟩
 (refine NST hF hH ?_; clear hF hH; rintro rfl rfl)
 refine WE ?_
 exact aret_1 [] _ rfl rfl rfl (by decide) (ZNK rfl) (fun _ => .nil) ⟨rfl, rfl⟩
theorem isin_v (pv v : Value) (L : List Spot) (hl : L.length ≤ 1000000000) (x y : Int) : ACalls Tryz.prog 84 [.a [.c (I x), .c (I y)], .c (.p pv [.r v (sR L)])] [] fun u H => u = .c (B (decide ((x, y) ∈ L))) ∧ H = [] := by
 refine acalls_of (N := 7) Tryz.func84 rfl rfl (by simp) fun E hE => ?_
 refine WA ?_
 refine ZR ?_
 refine ZA (rd_ldcp rfl (by kernel_rfl) rfl rfl) ?_
 refine WO ?_
 refine al_ef rfl (ef_call0 false (fun _ => haspl_v x y L v hl) rfl .fn rfl (by decide) (by kernel_rfl) rfl (fun _ => C0 rfl) (by simp)) ?_
 rintro _ _ ⟨_, _, _, ⟨rfl, rfl⟩, hF, hH⟩
 (refine NST hF hH ?_; clear hF hH; rintro rfl rfl)
 refine WE ?_
 exact aret_1 [] _ rfl rfl rfl (by decide) (ZNK rfl) (fun _ => .nil) ⟨rfl, rfl⟩
theorem isnot_v (qv fv pv v : Value) (L : List Spot) (hl : L.length ≤ 1000000000) (x y : Int) : ACalls Tryz.prog 85 [.a [.c (I x), .c (I y)], .c (.p qv [.f fv (.func 84) [.p pv [.r v (sR L)]]])] [] fun u H => u = .c (B (!decide ((x, y) ∈ L))) ∧ H = [] := by
 refine acalls_of (N := 8) Tryz.func85 rfl rfl (by simp) fun E hE => ?_
 refine WA ?_
 refine ZR ?_
 refine ZA (rd_ldcp rfl (by kernel_rfl) rfl rfl) ?_
 refine WO ?_
 refine al_ef rfl (ef_call0 false (fun _ => isin_v pv v L hl x y) rfl (.cf rfl) rfl (by decide) (by kernel_rfl) rfl (fun _ => C0 rfl) (by simp)) ?_
 rintro _ _ ⟨_, _, _, ⟨rfl, rfl⟩, hF, hH⟩
 (refine NST hF hH ?_; clear hF hH; rintro rfl rfl)
 refine WE ?_
 exact aret_1 [] _ rfl rfl rfl (by decide) (ZNK rfl) (fun _ => .nil) ⟨rfl, rfl⟩
theorem min_these {c : Cel} (h : NCel c) (k : Nat) : (normC (celN c.st (shrL k (covL c))).st ((covL (celN c.st (shrL k (covL c)))).filter fun q => !decide (q ∈ covL (celN c.st (shrL (k + 1) (covL c)))))).1 = walC c k := by
 obtain ⟨q1, q2, q3⟩ := wal_eq h k
 rw [celN_st]
 have := (normC_ok h q2).1
 unfold minL at this q3
 rw [this, q3]
set_option maxHeartbeats 2000000 in
theorem wallsof_v (va : Value) (c : Cel) (h : NCel c) (n : Nat) (hn : n ≤ 10) : ACalls Tryz.prog 20 [celA va c, .c (I n)] [] fun u H => ∃ (v w : Value) (lv : List (Value × Cel)), u = .t [.c (.r w (cR lv)), celA v (celN c.st (shrL n (covL c)))] ∧ lv.map Prod.snd = (List.range n).map (walC c) ∧ H = [] := by
 refine acalls_of (N := 35) Tryz.func20 rfl rfl (by simp) fun E hE => ?_
 refine WA ?_
 refine WA ?_
 refine WA ?_
 refine WA ?_
 refine aw_loopw (fun m F H => ∃ (k cp : Nat) (lv : List (Value × Cel)), m + k = n ∧ lv.map Prod.snd = (List.range k).map (walC c) ∧ F = [(1, .c (I n)), (2, .p 0 0 0), (5, .p 1 0 0), (6, .o 2 0 lv.length cp), (7, .f (.func 77) [.p 0 0 0]), (12, .c (I n)), (13, .c (I (k : Nat)))] ∧ H = [celB va c, .box [.c (I 0), .c (I 0), .c (I 0), .c (.r (.slice none 0 0) [])], .arr 28 4 cp (cR lv)]) ?_ ?_
 ·refine wk_of [some 0, some 1, none] (fun _ => [(1, .c (I n)), (2, .p 0 0 0), (5, .p 1 0 0), (6, .o 2 0 0 0), (7, .f (.func 77) [.p 0 0 0]), (12, .c (I n)), (13, .c (I (0 : Nat)))]) (fun _ => [celB va c, .box [.c (I 0), .c (I 0), .c (I 0), .c (.r (.slice none 0 0) [])], .arr 28 4 0 (cR [])]) (by decide) (ZNL hE) ZCF ZCH (fun _ => ?_)
  exact ⟨n, 0, 0, [], by omega, rfl, rfl, rfl⟩
 rintro m F H ⟨k, cp, lv, hk, hlv, rfl, rfl⟩
 have hll : lv.length = k := by have := congrArg List.length hlv; simpa using this
 refine WA ?_
 refine aw_if rfl (fun hlt => ?_) (fun hge => ?_)
 ·obtain ⟨q1, q2, q3⟩ := wal_eq h k
  obtain ⟨q4, _, _⟩ := wal_eq h (k + 1)
  have hlB := covL_len q4
  have hmt := min_these h k
  have hth : ∀ pv vp v1, ACalls Tryz.prog 80 [celA v1 (celN c.st (shrL k (covL c))), .f (.func 81) [.c (.p pv [.r vp (sR (covL (celN c.st (shrL (k + 1) (covL c)))))])]] [] fun u H => ∃ v', u = celA v' (walC c k) ∧ H = [] := fun pv vp v1 => by
   have := these_v 81 [.c (.p pv [.r vp (sR (covL (celN c.st (shrL (k + 1) (covL c)))))])] rfl (by kernel_rfl) (fun q => !decide (q ∈ covL (celN c.st (shrL (k + 1) (covL c))))) v1 _ q1 (fun x y _ => notin_v pv vp _ hlB x y)
   rw [hmt] at this
   exact this
  have hnl : (List.range (k + 1)).map (walC c) = (List.range k).map (walC c) ++ [walC c k] := by rw [List.range_succ, List.map_append]; rfl
  generalize walC c k = W at *
  refine WA ?_
  clear hmt q3 q2
  have hd1 := depth_v va c h k (by omega)
  have hd2 := depth_v va c h (k + 1) (by omega)
  generalize hDA : celN c.st (shrL k (covL c)) = DA at *
  generalize hDB : celN c.st (shrL (k + 1) (covL c)) = DB at *
  refine WR ?_
  refine al_ef rfl (ef_call [0] (fun _ => [celB va c]) false (fun _ => hd1) rfl (.clo rfl) rfl (by decide) (by kernel_rfl) rfl ZCH (by decide) ZCH (by simp)) ?_
  rintro F1 H1 ⟨_, _, _, _, ⟨v1, rfl, rfl⟩, hF, hH⟩
  (refine NSU hF hH ?_; clear hF hH; rintro rfl rfl)
  refine WO ?_
  refine al_ef rfl (ef_call [0] (fun _ => [celB va c]) false (fun _ => hd2) rfl (.clo rfl) rfl (by decide) (by kernel_rfl) rfl ZCH (by decide) ZCH (by simp)) ?_
  rintro F1 H1 ⟨_, _, _, _, ⟨v2, rfl, rfl⟩, hF, hH⟩
  (refine NSU hF hH ?_; clear hF hH; rintro rfl rfl)
  refine al_ef rfl (ef_call0 false (fun _ => places_r v2 DB q4) rfl .fn rfl (by decide) (by kernel_rfl) rfl (fun _ => C0 rfl) (by simp)) ?_
  rintro _ _ ⟨_, _, _, ⟨vp, rfl, rfl⟩, hF, hH⟩
  (refine NST hF hH ?_; clear hF hH; rintro rfl rfl)
  refine WE ?_
  refine aw_wk (wk_of (K := fun F H => ∃ pv, F = [(1, .c (I n)), (2, .p 0 0 0), (5, .p 1 0 0), (6, .o 2 0 lv.length cp), (7, .f (.func 77) [.p 0 0 0]), (9, .p 3 0 0), (10, .c (.p pv [.r vp (sR (covL DB))])), (12, .c (I n)), (13, .c (I (k : Nat)))] ∧ H = [celB va c, .box [.c (I 0), .c (I 0), .c (I 0), .c (.r (.slice none 0 0) [])], .arr 28 4 cp (cR lv), celB v1 DA]) [some 0, some 1, some 2, some 3] (fun g => [(1, .c (I n)), (2, .p 0 0 0), (5, .p 1 0 0), (6, .o 2 0 lv.length cp), (7, .f (.func 77) [.p 0 0 0]), (9, .p 3 0 0), (10, .c (.p (g (.p 4 0 0)) [.r vp (sR (covL DB))])), (12, .c (I n)), (13, .c (I (k : Nat)))]) (fun _ => [celB va c, .box [.c (I 0), .c (I 0), .c (I 0), .c (.r (.slice none 0 0) [])], .arr 28 4 cp (cR lv), celB v1 DA]) (by decide) (ZNL hE) (fun g => .cons rfl (.c rfl) (.cons rfl (.p rfl) (.cons rfl (.p rfl) (.cons rfl (.o rfl rfl) (.cons rfl (.fL (.cons (.p rfl) .nil)) (.cons rfl (.p rfl) (.cons rfl (frzpL rfl rfl (.cons (.c rfl) .nil)) (.cons rfl (.c rfl) (.cons rfl (.c rfl) .nil))))))))) ZCH (fun _ => ⟨_, rfl, rfl⟩)) ?_
  rintro F H ⟨pv, rfl, rfl⟩
  refine WR ?_
  refine al_ef rfl (ef_call0 false (fun _ => hth pv vp v1) rfl .fn rfl (by decide) (by kernel_rfl) rfl (fun _ => C0 rfl) (by simp)) ?_
  rintro _ _ ⟨_, _, _, ⟨v3, rfl, rfl⟩, hF, hH⟩
  (refine NST hF hH ?_; clear hF hH; rintro rfl rfl)
  refine WO ?_
  refine al_ef rfl (Zapp (KA (t := 31) rfl)) ?_
  rintro _ _ ⟨_, cc, hcc, rfl, rfl⟩
  refine WE ?_
  refine WA ?_
  refine wk_of [some 0, some 1, some 2] (fun _ => [(1, .c (I n)), (2, .p 0 0 0), (5, .p 1 0 0), (6, .o 2 0 (lv ++ [(v3, W)]).length cc), (7, .f (.func 77) [.p 0 0 0]), (12, .c (I n)), (13, .c (I (k + 1 : Nat)))]) (fun _ => [celB va c, .box [.c (I 0), .c (I 0), .c (I 0), .c (.r (.slice none 0 0) [])], .arr 28 4 cc (cR (lv ++ [(v3, W)]))]) (by decide) (ZNL hE) ZCF ZCH (fun _ => ?_)
  exact ⟨m - 1, by omega, k + 1, cc, lv ++ [(v3, W)], by omega, by rw [List.map_append, hlv, hnl]; rfl, rfl, rfl⟩
 obtain rfl : k = n := by omega
 have hd1 := depth_v va c h k (by omega)
 generalize hDA : celN c.st (shrL k (covL c)) = DA at *
 refine ZZ ?_
 refine WR ?_
 refine al_ef rfl (ef_call [0] (fun _ => [celB va c]) false (fun _ => hd1) rfl (.clo rfl) rfl (by decide) (by kernel_rfl) rfl ZCH (by decide) ZCH (by simp)) ?_
 rintro F1 H1 ⟨_, _, _, _, ⟨v1, rfl, rfl⟩, hF, hH⟩
 (refine NSU hF hH ?_; clear hF hH; rintro rfl rfl)
 refine WE ?_
 exact aret_of (us := [.o 2 0 lv.length cp, celA v1 DA]) [] (fun f => .t [.c (.r (f (.o 2 0 lv.length cp)) (cR lv)), celA v1 DA]) (fun _ => []) (.tmp rfl (.cella (n := 4) rfl (by kernel_rfl) (Cells.box rfl) (by simp) (by (try simp only [nm, putL, Nat.reduceAdd, cellsOf, cvOf]) <;> rfl) .nil)) (by decide) (fun i hi => absurd hi (Nat.not_lt_zero i)) (fun g' => .tL (.cons (.frz rfl rfl (by rw [List.drop_zero, List.take_of_length_le (by simp)]) (by simp) rfl) (.cons (.aL (.cons (.c rfl) (.cons (.c rfl) (.cons (.c rfl) (.cons (.c rfl) .nil))))) .nil))) (fun _ => .nil) (fun g' => ⟨v1, _, lv, rfl, hlv, rfl⟩)
end Go.Proofs.YtgeenfjmhhenfaaGreatDoor

/- The reference's solid cells, by value: SolidOf. -/
-- NEWM
namespace Go.Proofs.YtgeenfjmhhenfaaGreatDoor
open Go Go.RowKit
set_option maxRecDepth 100000
set_option maxHeartbeats 2000000 in
theorem solof1_v (p1 p2 p3 p4 w : Value) (l : List (Value × Cel)) (ly tp bo : Int) (hly : 0 ≤ ly ∧ ly < 100) (htp : 0 ≤ tp ∧ tp ≤ 50) (hbo : 0 ≤ bo ∧ bo ≤ 50) (hl : l.length ≤ 1000) (hok : ∀ p ∈ l, RCel p.2) (a b : Int) : ACalls Tryz.prog 83 [.a [.c (I a), .c (I b)], .c (.p p1 [I bo]), .c (.p p2 [I tp]), .c (.p p3 [I ly]), .c (.p p4 [.r w (cR l)])] [] fun u H => u = .c (B (!nearL (l.map fun p => covL p.2) ly tp bo (a, b))) ∧ H = [] := by
 have e1 : (cR l).length = l.length := by simp
 have hPP : nearL (l.map fun p => covL p.2) ly tp bo (a, b) = allU (okL (l.map fun p => covL p.2) (a, b)) (tp + bo + 1).toNat (ly - bo) := rfl
 generalize nearL (l.map fun p => covL p.2) ly tp bo (a, b) = P at *
 refine acalls_of (N := 37) Tryz.func83 rfl rfl (by simp) fun E hE => ?_
 refine WA ?_
 refine ZR ?_
 refine ZA (rd_ldcp rfl (by kernel_rfl) rfl rfl) ?_
 refine WE ?_
 refine aw_loopw (fun m F H => ∃ d : Int, d + m = tp + 1 ∧ -bo ≤ d ∧ allU (okL (l.map fun p => covL p.2) (a, b)) m (ly + d) = P ∧ F = [(1, .c (.p p1 [I bo])), (2, .c (.p p2 [I tp])), (3, .c (.p p3 [I ly])), (4, .c (.p p4 [.r w (cR l)])), (5, .p 0 0 0), (7, .c (I d))] ∧ H = [.box [.c (I a), .c (I b)]]) ?_ ?_
 ·refine wk_of [some 0] (fun _ => [(1, .c (.p p1 [I bo])), (2, .c (.p p2 [I tp])), (3, .c (.p p3 [I ly])), (4, .c (.p p4 [.r w (cR l)])), (5, .p 0 0 0), (7, .c (I (-bo)))]) (fun _ => [.box [.c (I a), .c (I b)]]) (by decide) (ZNL hE) ZCF ZCH (fun _ => ?_)
  exact ⟨(tp + bo + 1).toNat, -bo, by omega, by omega, hPP.symm, rfl, rfl⟩
 rintro m F H ⟨d, hd, hdn, hal, rfl, rfl⟩
 refine ZR ?_
 refine WX1 ?_
 refine ZA (rd_ldcp rfl (by kernel_rfl) rfl rfl) ?_
 refine WE ?_
 refine aw_if rfl (fun hlt => ?_) (fun hge => ?_)
 ·obtain ⟨m, rfl⟩ : ∃ m', m = m' + 1 := ⟨m - 1, by omega⟩
  rw [allU] at hal
  refine ZR ?_
  refine ZA (rd_ldcp rfl (by kernel_rfl) rfl rfl) ?_
  refine WE ?_
  by_cases hk0 : ly + d < 0
  ·have hz : okL (l.map fun p => covL p.2) (a, b) (ly + d) = false := by rw [okL, decide_eq_false (by omega)]; rfl
   rw [hz] at hal
   obtain rfl : P = false := by simpa using hal.symm
   refine ZZ ?_
   refine aw_regionT [(0, none), (1, none), (2, none), (3, none), (4, none), (5, none), (6, none), (7, none), (8, none), (9, none), (10, none), (11, none), (12, none), (14, none), (13, some [14]), (15, some []), (16, none), (17, none)] hMixed (by kernel_rfl) ?_
   iterate 4 refine WX2 ?_
   first | refine ZU rfl (rd_ldcp rfl (by kernel_rfl) rfl rfl) ?_ | refine ZV ?_
   iterate 4 refine WX2 ?_
   first | refine ZU rfl (rd_ldcp rfl (by kernel_rfl) rfl rfl) ?_ | refine ZV ?_
   refine WP ?_
   first | refine at_efN rfl rfl rfl (by decide) ⟨ag_cons (by first | exact ag_un rfl rfl rfl rfl | exact ag_rdK rfl rfl rfl (ZK (KK (t := 121) rfl)) rfl) (ag_none), ?_⟩ | (refine at_efK rfl (ef_call0 false (fun _ => places_r vi ci hci) rfl .fn rfl (by decide) (by kernel_rfl) rfl (fun _ => C0 rfl) (by simp)) ?_; rintro _ _ ⟨_, _, _, ⟨vp, rfl, rfl⟩, hF, hH⟩; (refine NST hF hH ?_; clear hF hH; rintro rfl rfl); refine ⟨ag_cons (by first | exact ag_un rfl rfl rfl rfl | exact ag_rdK rfl rfl rfl (ZK (KK (t := 121) rfl)) rfl) (ag_none), ?_⟩)
   first | refine at_efN rfl rfl rfl (by decide) ⟨ag_none, ?_⟩ | (refine at_efK rfl (ef_call0 false (fun _ => haspl_v a b (covL ci) vp (covL_len hci)) rfl .fn rfl (by decide) (by kernel_rfl) rfl (fun _ => C0 rfl) (by simp)) ?_; rintro _ _ ⟨_, _, _, ⟨rfl, rfl⟩, hF, hH⟩; rw [hq] at hF; (refine NST hF hH ?_; clear hF hH; rintro rfl rfl); refine ⟨ag_none, ?_⟩)
   refine WQ ?_
   refine aw_cond_t rfl ?_
   refine WA ?_
   exact aret_1 [] _ rfl rfl rfl (by decide) (ZNK rfl) (fun _ => .nil) ⟨rfl, rfl⟩
  obtain ⟨i, hi⟩ : ∃ i : Nat, ly + d = i := ⟨(ly + d).toNat, by omega⟩
  rw [show ly + d + 1 = ly + (d + 1) by omega] at hal
  have hok0 : okL (l.map fun p => covL p.2) (a, b) (ly + d) = decide ((a, b) ∈ (l.map fun p => covL p.2).getD i []) := by rw [okL, decide_eq_true (by omega), hi]; simp
  by_cases hkl : l.length ≤ i
  ·have hz : okL (l.map fun p => covL p.2) (a, b) (ly + d) = false := by rw [hok0, List.getD_eq_getElem?_getD, List.getElem?_eq_none (by simp; omega)]; simp
   rw [hz] at hal
   obtain rfl : P = false := by simpa using hal.symm
   refine ZZ ?_
   refine aw_regionT [(0, none), (1, none), (2, none), (3, none), (4, none), (5, none), (6, none), (7, none), (8, none), (9, none), (10, none), (11, none), (12, none), (14, none), (13, some [14]), (15, some []), (16, none), (17, none)] hMixed (by kernel_rfl) ?_
   iterate 4 refine WX2 ?_
   first | refine ZU rfl (rd_ldcp rfl (by kernel_rfl) rfl rfl) ?_ | refine ZV ?_
   iterate 4 refine WX2 ?_
   first | refine ZU rfl (rd_ldcp rfl (by kernel_rfl) rfl rfl) ?_ | refine ZV ?_
   refine WP ?_
   first | refine at_efN rfl rfl rfl (by decide) ⟨ag_cons (by first | exact ag_un rfl rfl rfl rfl | exact ag_rdK rfl rfl rfl (ZK (KK (t := 121) rfl)) rfl) (ag_none), ?_⟩ | (refine at_efK rfl (ef_call0 false (fun _ => places_r vi ci hci) rfl .fn rfl (by decide) (by kernel_rfl) rfl (fun _ => C0 rfl) (by simp)) ?_; rintro _ _ ⟨_, _, _, ⟨vp, rfl, rfl⟩, hF, hH⟩; (refine NST hF hH ?_; clear hF hH; rintro rfl rfl); refine ⟨ag_cons (by first | exact ag_un rfl rfl rfl rfl | exact ag_rdK rfl rfl rfl (ZK (KK (t := 121) rfl)) rfl) (ag_none), ?_⟩)
   first | refine at_efN rfl rfl rfl (by decide) ⟨ag_none, ?_⟩ | (refine at_efK rfl (ef_call0 false (fun _ => haspl_v a b (covL ci) vp (covL_len hci)) rfl .fn rfl (by decide) (by kernel_rfl) rfl (fun _ => C0 rfl) (by simp)) ?_; rintro _ _ ⟨_, _, _, ⟨rfl, rfl⟩, hF, hH⟩; rw [hq] at hF; (refine NST hF hH ?_; clear hF hH; rintro rfl rfl); refine ⟨ag_none, ?_⟩)
   refine WQ ?_
   refine aw_cond_t rfl ?_
   refine WA ?_
   exact aret_1 [] _ rfl rfl rfl (by decide) (ZNK rfl) (fun _ => .nil) ⟨rfl, rfl⟩
  obtain ⟨⟨vi, ci⟩, hz⟩ : ∃ e, l[i]? = some e := ⟨_, List.getElem?_eq_getElem (by omega)⟩
  have hci := hok _ (List.mem_of_getElem? hz)
  simp only at hci
  have hrow : (cR l)[i]? = some (celR vi ci) := by rw [List.getElem?_map, hz]; rfl
  have hget : (l.map fun p => covL p.2).getD i [] = covL ci := by rw [List.getD_eq_getElem?_getD, List.getElem?_map, hz]; rfl
  rw [hget] at hok0
  obtain ⟨q, hq⟩ : ∃ q, decide ((a, b) ∈ covL ci) = q := ⟨_, rfl⟩
  rw [hok0, hq] at hal
  refine ZZ ?_
  refine aw_regionT [(0, none), (1, none), (2, none), (3, none), (4, none), (5, none), (6, none), (7, none), (8, none), (9, none), (10, none), (11, none), (12, none), (14, none), (13, some [14]), (15, some []), (16, none), (17, none)] hMixed (by kernel_rfl) ?_
  iterate 4 refine WX2 ?_
  first | refine ZU rfl (rd_ldcp rfl (by kernel_rfl) rfl rfl) ?_ | refine ZV ?_
  iterate 4 refine WX2 ?_
  first | refine ZU rfl (rd_ldcp rfl (by kernel_rfl) rfl rfl) ?_ | refine ZV ?_
  refine WP ?_
  first | refine at_efN rfl rfl rfl (by decide) ⟨ag_cons (by first | exact ag_un rfl rfl rfl rfl | exact ag_rdK rfl rfl rfl (ZK (KK (t := 121) rfl)) rfl) (ag_none), ?_⟩ | (refine at_efK rfl (ef_call0 false (fun _ => places_r vi ci hci) rfl .fn rfl (by decide) (by kernel_rfl) rfl (fun _ => C0 rfl) (by simp)) ?_; rintro _ _ ⟨_, _, _, ⟨vp, rfl, rfl⟩, hF, hH⟩; (refine NST hF hH ?_; clear hF hH; rintro rfl rfl); refine ⟨ag_cons (by first | exact ag_un rfl rfl rfl rfl | exact ag_rdK rfl rfl rfl (ZK (KK (t := 121) rfl)) rfl) (ag_none), ?_⟩)
  first | refine at_efN rfl rfl rfl (by decide) ⟨ag_none, ?_⟩ | (refine at_efK rfl (ef_call0 false (fun _ => haspl_v a b (covL ci) vp (covL_len hci)) rfl .fn rfl (by decide) (by kernel_rfl) rfl (fun _ => C0 rfl) (by simp)) ?_; rintro _ _ ⟨_, _, _, ⟨rfl, rfl⟩, hF, hH⟩; rw [hq] at hF; (refine NST hF hH ?_; clear hF hH; rintro rfl rfl); refine ⟨ag_none, ?_⟩)
  refine WQ ?_
  cases q with
  | false =>
   obtain rfl : P = false := by simpa using hal.symm
   refine aw_cond_t rfl ?_
   refine WA ?_
   exact aret_1 [] _ rfl rfl rfl (by decide) (ZNK rfl) (fun _ => .nil) ⟨rfl, rfl⟩
  | true =>
   refine aw_cond_f rfl ?_
   refine ZZ ?_
   refine WA ?_
   refine wk_of [some 0] (fun _ => [(1, .c (.p p1 [I bo])), (2, .c (.p p2 [I tp])), (3, .c (.p p3 [I ly])), (4, .c (.p p4 [.r w (cR l)])), (5, .p 0 0 0), (7, .c (I (d + 1)))]) (fun _ => [.box [.c (I a), .c (I b)]]) (by decide) (ZNL hE) ZCF ZCH (fun _ => ?_)
   exact ⟨m, by omega, d + 1, by omega, by omega, by simpa using hal, rfl, rfl⟩
 obtain rfl : m = 0 := by omega
 rw [allU] at hal
 subst hal
 refine ZZ ?_
 refine WA ?_
 exact aret_1 [] _ rfl rfl rfl (by decide) (ZNK rfl) (fun _ => .nil) ⟨rfl, rfl⟩
set_option maxHeartbeats 1000000 in
theorem solidof_v (w : Value) (l : List (Value × Cel)) (i : Nat) (tp bo : Int) (htp : 0 ≤ tp ∧ tp ≤ 50) (hbo : 0 ≤ bo ∧ bo ≤ 50) (hl : l.length ≤ 50) (hok : ∀ p ∈ l, NCel p.2) (c : Cel) (vc : Value) (hi : l[i]? = some (vc, c)) : ACalls Tryz.prog 21 [.c (.r w (cR l)), .c (I i), .c (I tp), .c (I bo)] [] fun u H => ∃ v, u = celA v (celN c.st (solL (l.map Prod.snd) i tp bo)) ∧ H = [] := by
 have hil := (List.getElem?_eq_some_iff.1 hi).1
 have hrow : (cR l)[i]? = some (celR vc c) := by rw [List.getElem?_map, hi]; rfl
 have hn := hok _ (List.mem_of_getElem? hi)
 simp only at hn
 have e1 : (cR l).length = l.length := by simp
 have hmm : (l.map Prod.snd).map covL = l.map fun p => covL p.2 := by rw [List.map_map]; rfl
 have hget : (l.map fun p => covL p.2).getD i [] = covL c := by rw [List.getD_eq_getElem?_getD, List.getElem?_map, hi]; rfl
 have hsol : solL (l.map Prod.snd) i tp bo = (covL c).filter fun q => !nearL (l.map fun p => covL p.2) i tp bo q := by rw [solL, hmm, hget]
 have hth : ∀ p1 p2 p3 p4, ACalls Tryz.prog 80 [celA vc c, .f (.func 83) [.c (.p p1 [I bo]), .c (.p p2 [I tp]), .c (.p p3 [I i]), .c (.p p4 [.r w (cR l)])]] [] fun u H => ∃ v', u = celA v' (celN c.st (solL (l.map Prod.snd) i tp bo)) ∧ H = [] := fun p1 p2 p3 p4 => by
  have := these_v 83 [.c (.p p1 [I bo]), .c (.p p2 [I tp]), .c (.p p3 [I i]), .c (.p p4 [.r w (cR l)])] rfl (by kernel_rfl) (fun q => !nearL (l.map fun (p : Value × Cel) => covL p.2) i tp bo q) vc c hn.r (fun x y _ => solof1_v p1 p2 p3 p4 w l i tp bo (by omega) htp hbo (by omega) (fun p hp => (hok p hp).r) x y)
  rw [← hsol, (normC_ok hn (fun p hp => by rw [hsol] at hp; exact (List.mem_filter.1 hp).1)).1] at this
  exact this
 generalize hS : celN c.st (solL (l.map Prod.snd) i tp bo) = S at *
 refine acalls_of (N := 15) Tryz.func21 rfl rfl (by simp) fun E hE => ?_
 refine WA ?_
 refine aw_wk (wk_of (K := fun F H => ∃ p1 p2 p3 p4, F = [(4, .c (.p p4 [.r w (cR l)])), (5, .c (.p p3 [I i])), (6, .c (.p p2 [I tp])), (7, .c (.p p1 [I bo])), (8, .p 0 0 0)] ∧ H = [.box [.c (I 0), .c (I 0), .c (I 0), .c (.r (.slice none 0 0) [])]]) [some 4] (fun g => [(4, .c (.p (g (.p 0 0 0)) [.r w (cR l)])), (5, .c (.p (g (.p 1 0 0)) [I i])), (6, .c (.p (g (.p 2 0 0)) [I tp])), (7, .c (.p (g (.p 3 0 0)) [I bo])), (8, .p 0 0 0)]) (fun _ => [.box [.c (I 0), .c (I 0), .c (I 0), .c (.r (.slice none 0 0) [])]]) (by decide) (ZNL hE) (fun g => .cons rfl (frzpL rfl rfl (.cons (.c rfl) .nil)) (.cons rfl (frzpL rfl rfl (.cons (.c rfl) .nil)) (.cons rfl (frzpL rfl rfl (.cons (.c rfl) .nil)) (.cons rfl (frzpL rfl rfl (.cons (.c rfl) .nil)) (.cons rfl (.p rfl) .nil))))) ZCH (fun _ => ⟨_, _, _, _, rfl, rfl⟩)) ?_
 rintro F H ⟨p1, p2, p3, p4, rfl, rfl⟩
 refine ZR ?_
 refine ZA (rd_ldcp rfl (by kernel_rfl) rfl rfl) ?_
 refine ZA (rd_ldcp rfl (by kernel_rfl) rfl rfl) ?_
 refine WO ?_
 refine al_ef rfl (ef_call0 false (fun _ => hth p1 p2 p3 p4) rfl .fn rfl (by decide) (by kernel_rfl) rfl (fun _ => C0 rfl) (by simp)) ?_
 rintro _ _ ⟨_, _, _, ⟨v3, rfl, rfl⟩, hF, hH⟩
 (refine NST hF hH ?_; clear hF hH; rintro rfl rfl)
 refine WE ?_
 exact aret_a [] _ rfl (KK (t := 28) rfl) rfl (Cells.box rfl) (by first | (simp; done) | exact Nat.le_refl 4) (by (try simp only [nm, putL, Nat.reduceAdd, cellsOf, cvOf]) <;> rfl) (by decide) (ZNK rfl) (fun _ => C0 rfl) (fun _ => .nil) ⟨v3, rfl, rfl⟩
end Go.Proofs.YtgeenfjmhhenfaaGreatDoor
