/- The reference's plan: the walls of its first filling stay an array of the call's own. -/
import Derived.Test.YtniolldgidgffaaGreatDoorQbq
import Derived.Test.YtniolldgidgffaaGreatDoorQbu
import Derived.Test.YtniolldgidgffaaGreatDoorQbi
import Derived.Test.YtniolldgidgffaaGreatDoorQbk
import Derived.Test.YtniolldgidgffaaGreatDoorQar
set_option linter.unusedSimpArgs false
set_option linter.unusedVariables false
/- The reference's BridgesOf; bridges are compared. -/
-- NEWM
namespace Go.Proofs.YtniolldgidgffaaGreatDoor
open Go Go.RowKit
set_option maxRecDepth 100000
theorem brgin_v (pv v : Value) (L : List Spot) (hl : L.length ≤ 1000000000) (x y : Int) : ACalls Tryz.prog 118 [.a [.c (I x), .c (I y)], .c (.p pv [.r v (sR L)])] [] fun u H => u = .c (B (!decide ((x, y) ∈ L))) ∧ H = [] := by
 refine acalls_of (N := 8) Tryz.func118 rfl rfl (by simp) fun E hE => ?_
 refine WA ?_
 refine ZR ?_
 refine ZA (rd_ldcp rfl (by kernel_rfl) rfl rfl) ?_
 refine WO ?_
 refine al_ef rfl (ef_call0 false (fun _ => haspl_v x y L v hl) rfl .fn rfl (by decide) (by kernel_rfl) rfl (fun _ => C0 rfl) (by simp)) ?_
 rintro _ _ ⟨_, _, _, ⟨rfl, rfl⟩, hF, hH⟩
 (refine NST hF hH ?_; clear hF hH; rintro rfl rfl)
 refine WE ?_
 exact aret_1 [] _ rfl rfl rfl (by decide) (ZNK rfl) (fun _ => .nil) ⟨rfl, rfl⟩
set_option maxHeartbeats 4000000 in
theorem bridgesof_v (va vb : Value) (a b : Cel) (ha : RCel a) (hb : NCel b) : ACalls Tryz.prog 41 [celA va a, celA vb b] [] fun u H => ∃ (v : Value) (l : List Brg), u = .c (.r v (brgR l)) ∧ (l.map fun x => (x.1.2, x.2)) = brgL a b ∧ H = [] := by
 have hsub : ∀ p ∈ minL (covL b) (covL a), p ∈ covL b := fun p hp => (List.mem_filter.1 hp).1
 have hmin := (normC_ok hb hsub).1
 have hD : RCel (celN b.st (minL (covL b) (covL a))) := (normC_ok hb hsub).2
 have hbl : brgL a b = (partF (celN b.st (minL (covL b) (covL a)))).map fun c => (c, bestF c) := rfl
 rw [hbl]
 have hpr := prt_r hb hD (celN_st _ _) fun p hp => hsub p ((covL_celN (by have := hb.r.st; omega)).1 hp)
 have hlA := covL_len ha
 have hth : ∀ pv vu, ACalls Tryz.prog 100 [celA vb b, .f (.func 118) [.c (.p pv [.r vu (sR (covL a))])]] [] fun u H => ∃ v', u = celA v' (celN b.st (minL (covL b) (covL a))) ∧ H = [] := fun pv vu => by
  have := these_v 118 [.c (.p pv [.r vu (sR (covL a))])] rfl (by kernel_rfl) (fun q => !decide (q ∈ covL a)) vb b hb.r (fun x y _ => brgin_v pv vu _ hlA x y)
  rw [show (covL b).filter (fun q => !decide (q ∈ covL a)) = minL (covL b) (covL a) from rfl, hmin] at this
  exact this
 generalize hDe : celN b.st (minL (covL b) (covL a)) = D at *
 refine acalls_of (N := 38) Tryz.func41 rfl rfl (by simp) fun E hE => ?_
 refine WA ?_
 refine WR ?_
 refine al_ef rfl (ef_call0 false (fun _ => places_r va a ha) rfl .fn rfl (by decide) (by kernel_rfl) rfl (fun _ => C0 rfl) (by simp)) ?_
 rintro _ _ ⟨_, _, _, ⟨vu, rfl, rfl⟩, hF, hH⟩
 (refine NST hF hH ?_; clear hF hH; rintro rfl rfl)
 refine WE ?_
 refine aw_wk (wk_of (K := fun F H => ∃ pv, F = [(3, .p 0 0 0), (5, .c (.p pv [.r vu (sR (covL a))]))] ∧ H = [celB vb b]) [some 1] (fun f => [(3, .p 0 0 0), (5, .c (.p (f (.p 2 0 0)) [.r vu (sR (covL a))]))]) (fun _ => [celB vb b]) (by decide) (ZNL hE) (fun _ => .cons rfl (.p rfl) (.cons rfl (frzpL rfl rfl (.cons (.c rfl) .nil)) .nil)) ZCH (fun _ => ⟨_, rfl, rfl⟩)) ?_
 rintro F H ⟨pv, rfl, rfl⟩
 refine WA ?_
 refine WR ?_
 refine al_ef rfl (ef_call0 false (fun _ => hth pv vu) rfl .fn rfl (by decide) (by kernel_rfl) rfl (fun _ => C0 rfl) (by simp)) ?_
 rintro _ _ ⟨_, _, _, ⟨vd, rfl, rfl⟩, hF, hH⟩
 (refine NST hF hH ?_; clear hF hH; rintro rfl rfl)
 refine al_ef rfl (ef_call0 false (fun _ => partsof_v vd D hD) rfl .fn rfl (by decide) (by kernel_rfl) rfl (fun _ => C0 rfl) (by simp)) ?_
 rintro _ _ ⟨_, _, _, ⟨vp, lp, rfl, hlp, rfl⟩, hF, hH⟩
 (refine NST hF hH ?_; clear hF hH; rintro rfl rfl)
 refine WE ?_
 have hnp := hpr.n
 have hrp := hpr.r
 rw [← hlp] at hnp hrp ⊢
 have e1 : (cR lp).length = lp.length := by simp
 have hnl : lp.length ≤ 100000 := by simpa using hnp
 refine aw_loopw (fun m F H => ∃ (i cp : Nat) (l : List Brg), m + i = lp.length ∧ (l.map fun x => (x.1.2, x.2)) = ((lp.map Prod.snd).take i).map (fun c => (c, bestF c)) ∧ F = [(6, .o 0 0 l.length cp), (17, .c (.r vp (cR lp))), (18, .c (I (cR lp).length)), (19, .c (I i))] ∧ H = [.arr 71 6 cp (brgR l)]) ?_ ?_
 ·refine wk_of [none] (fun _ => [(6, .o 0 0 0 0), (17, .c (.r vp (cR lp))), (18, .c (I (cR lp).length)), (19, .c (I (0 : Nat)))]) (fun _ => [.arr 71 6 0 (brgR [])]) (by decide) (ZNL hE) ZCF ZCH (fun _ => ?_)
  exact ⟨lp.length, 0, 0, [], by omega, rfl, rfl, rfl⟩
 rintro m F H ⟨i, cp, l, hi, hl, rfl, rfl⟩
 have hll : l.length = i := by have := congrArg List.length hl; simp at this; omega
 refine WA ?_
 refine aw_if rfl (fun hlt => ?_) (fun hge => ?_)
 ·obtain ⟨⟨w, c⟩, hx⟩ : ∃ e, lp[i]? = some e := ⟨_, List.getElem?_eq_getElem (by omega)⟩
  have hrow : (cR lp)[i]? = some (celR w c) := by rw [List.getElem?_map, hx]; rfl
  have hxc : (lp.map Prod.snd)[i]? = some c := by rw [List.getElem?_map, hx]; rfl
  have hc := hrp c (List.mem_of_getElem? hxc)
  have htk : (lp.map Prod.snd).take (i + 1) = (lp.map Prod.snd).take i ++ [c] := by rw [List.take_add_one, hxc]; rfl
  have hqr : quaR c = ((bestF c).1, (bestF c).2, 0) := if_neg hc.2.2
  have hqv := quarterof_v w c hc.1
  rw [hqr] at hqv
  simp only at hqv
  have ebr : bestF c = ((bestF c).1, (bestF c).2) := rfl
  refine WA ?_
  refine WR ?_
  refine al_ef rfl (ef_call0 false (fun _ => hqv) rfl .fn rfl (by decide) (by kernel_rfl) rfl (fun _ => C0 rfl) (by simp)) ?_
  rintro _ _ ⟨_, _, _, ⟨rfl, rfl⟩, hF, hH⟩
  (refine NST hF hH ?_; clear hF hH; rintro rfl rfl)
  refine WE ?_
  refine WR ?_
  refine al_ef rfl (Zapp (KA (t := 65) rfl)) ?_
  rintro _ _ ⟨_, cc, hcc, rfl, rfl⟩
  refine WE ?_
  refine WA ?_
  refine wk_of [some 0] (fun _ => [(6, .o 0 0 (l ++ [(((w, c), bestF c) : Brg)]).length cc), (17, .c (.r vp (cR lp))), (18, .c (I (cR lp).length)), (19, .c (I (i + 1 : Nat)))]) (fun _ => [.arr 71 6 cc (brgR (l ++ [(((w, c), bestF c) : Brg)]))]) (by decide) (ZNL hE) ZCF ZCH (fun _ => ?_)
  exact ⟨m - 1, by omega, i + 1, cc, l ++ [((w, c), bestF c)], by omega, by rw [htk, List.map_append, List.map_append, hl]; rfl, rfl, rfl⟩
 obtain rfl : i = lp.length := by omega
 rw [List.take_of_length_le (by simp)] at hl
 refine ZZ ?_
 refine WA ?_
 exact aret_f1 [] _ rfl rfl rfl rfl (by rw [List.drop_zero, List.take_of_length_le (by simp)]) (by simp) rfl (by decide) (ZNK rfl) (fun _ => .nil) (fun q => ⟨q, l, rfl, hl, rfl⟩)
abbrev brgP (b : Brg) : List CV := [I b.1.2.st, I b.1.2.x, I b.1.2.y, .r b.1.1 (tR b.1.2.rows), I b.2.1, I b.2.2]
theorem samebr_v (a b : Brg) (h1 : a.1.2 = b.1.2) (h2 : a.2 = b.2) (hl : b.1.2.rows.length ≤ 1000000000) : ACalls Tryz.prog 43 [.a ((brgP a).map .c), .a ((brgP b).map .c)] [] fun u H => u = .c (B true) ∧ H = [] := by
 obtain ⟨⟨v1, c⟩, q, n⟩ := b
 obtain ⟨⟨v2, c'⟩, q', n'⟩ := a
 simp only at h1 h2 hl
 subst h1
 obtain ⟨rfl, rfl⟩ := Prod.mk.inj h2
 have z1 : q' = q' := rfl
 have z2 : n' = n' := rfl
 refine acalls_of (N := 24) Tryz.func43 rfl rfl (by simp) fun E hE => ?_
 refine WA ?_
 refine WR ?_
 refine al_ef rfl (ef_call0 false (fun _ => samec_v _ _ c' hl) rfl .fn rfl (by decide) (by kernel_rfl) rfl (fun _ => C0 rfl) (by simp)) ?_
 rintro _ _ ⟨_, _, _, ⟨rfl, rfl⟩, hF, hH⟩
 (refine NST hF hH ?_; clear hF hH; rintro rfl rfl)
 refine WE ?_
 exact aret_1 [] _ rfl rfl rfl (by decide) (ZNK rfl) (fun _ => .nil) ⟨rfl, rfl⟩
set_option maxHeartbeats 1000000 in
theorem eqfbr_v (fn : FuncId) (hfn : okFn Tryz.prog fn = true) (va vb : Value) (la lb : List (Brg)) (hll : la.length = lb.length) (hl : la.length ≤ 1000000000) (hcall : ∀ (k : Nat) (a b : Brg), la[k]? = some a → lb[k]? = some b → ACalls Tryz.prog fn [.a ((brgP a).map .c), .a ((brgP b).map .c)] [] fun u H => u = .c (B true) ∧ H = []) : ACalls Tryz.prog 42 [.c (.r va (la.map brgP)), .c (.r vb (lb.map brgP)), .f (.func fn) []] [] fun u H => u = .c (B true) ∧ H = [] := by
 have e1 : (la.map brgP).length = la.length := by simp
 have e2 : (lb.map brgP).length = la.length := by simp [hll]
 have hne : ¬ ((la.map brgP).length : Int) ≠ ((lb.map brgP).length : Int) := by omega
 refine acalls_of (N := 32) Tryz.func42 rfl rfl (by simp) fun E hE => ?_
 refine WA ?_
 refine WA ?_
 refine aw_cond_f rfl ?_
 refine ZZ ?_
 refine WA ?_
 refine aw_loopw (fun m F H => ∃ k : Nat, m + k = la.length ∧ F = [(0, .c (.r va (la.map brgP))), (1, .c (.r vb (lb.map brgP))), (2, .f (.func fn) []), (15, .c (.r va (la.map brgP))), (16, .c (I (la.map brgP).length)), (17, .c (I k))] ∧ H = []) ?_ ?_
 ·refine wk_of [] (fun _ => [(0, .c (.r va (la.map brgP))), (1, .c (.r vb (lb.map brgP))), (2, .f (.func fn) []), (15, .c (.r va (la.map brgP))), (16, .c (I (la.map brgP).length)), (17, .c (I (0 : Nat)))]) (fun _ => _) (by decide) (ZNL hE) ZCF (fun _ => .nil) (fun _ => ?_)
  exact ⟨la.length, 0, by omega, rfl, rfl⟩
 rintro m F H ⟨k, hk, rfl, rfl⟩
 refine WA ?_
 refine aw_if rfl (fun hlt => ?_) (fun hge => ?_)
 ·obtain ⟨ea, hza⟩ : ∃ e, la[k]? = some e := ⟨_, List.getElem?_eq_getElem (by omega)⟩
  obtain ⟨eb, hzb⟩ : ∃ e, lb[k]? = some e := ⟨_, List.getElem?_eq_getElem (by omega)⟩
  have hrowa : (la.map brgP)[k]? = some (brgP ea) := by rw [List.getElem?_map, hza]; rfl
  have hrowb : (lb.map brgP)[k]? = some (brgP eb) := by rw [List.getElem?_map, hzb]; rfl
  refine WA ?_
  refine WA ?_
  refine WR ?_
  refine al_ef rfl (ef_call0 false (fun _ => hcall k _ _ hza hzb) rfl (.clo rfl) rfl (by decide) hfn rfl (fun _ => C0 rfl) (by simp)) ?_
  rintro _ _ ⟨_, _, _, ⟨rfl, rfl⟩, hF, hH⟩
  (refine NST hF hH ?_; clear hF hH; rintro rfl rfl)
  refine WE ?_
  refine aw_cond_f rfl ?_
  refine ZZ ?_
  refine WA ?_
  refine wk_of [] (fun _ => [(0, .c (.r va (la.map brgP))), (1, .c (.r vb (lb.map brgP))), (2, .f (.func fn) []), (15, .c (.r va (la.map brgP))), (16, .c (I (la.map brgP).length)), (17, .c (I (k + 1 : Nat)))]) (fun _ => _) (by decide) (ZNL hE) ZCF (fun _ => .nil) (fun _ => ?_)
  exact ⟨m - 1, by omega, k + 1, by omega, rfl, rfl⟩
 refine ZZ ?_
 refine WA ?_
 exact aret_1 [] _ rfl rfl rfl (by decide) (ZNK rfl) (fun _ => .nil) ⟨rfl, rfl⟩
theorem samebrs_v (va vb : Value) (la lb : List Brg) (h : (la.map fun x => (x.1.2, x.2)) = lb.map fun x => (x.1.2, x.2)) (hl : la.length ≤ 1000000000) (hr : ∀ p ∈ la, p.1.2.rows.length ≤ 1000000000) : ACalls Tryz.prog 42 [.c (.r va (brgR la)), .c (.r vb (brgR lb)), .f (.func 43) []] [] fun u H => u = .c (B true) ∧ H = [] := by
 have hlen : la.length = lb.length := by have := congrArg List.length h; simpa using this
 refine eqfbr_v 43 (by kernel_rfl) va vb la lb hlen hl fun k a b ha hb => ?_
 have h1 : (la.map fun x => (x.1.2, x.2))[k]? = some (a.1.2, a.2) := by rw [List.getElem?_map, ha]; rfl
 rw [h, List.getElem?_map, hb] at h1
 simp only [Option.map_some, Option.some.injEq, Prod.mk.injEq] at h1
 exact samebr_v a b h1.1.symm h1.2.symm (by rw [h1.1]; exact hr a (List.mem_of_getElem? ha))
end Go.Proofs.YtniolldgidgffaaGreatDoor

/- The reference's plan: the walls of its first filling stay an array of the call's own. -/
-- NEWM
namespace Go.Proofs.YtniolldgidgffaaGreatDoor
open Go Go.RowKit
set_option maxRecDepth 100000
set_option maxHeartbeats 2000000 in
theorem wallsof_o (va : Value) (c : Cel) (h : NCel c) (n : Nat) (hn : n ≤ 10) : ACalls Tryz.prog 166 [celA va c, .c (I n)] [] fun u H => ∃ (v : Value) (lv : List (Value × Cel)) (cp : Nat), u = .t [.o 0 0 lv.length cp, celA v (celN c.st (shrL n (covL c)))] ∧ lv.map Prod.snd = (List.range n).map (walC c) ∧ H = [.arr 28 4 cp (cR lv)] := by
 refine acalls_of (N := 35) Tryz.func166 rfl rfl (by simp) fun E hE => ?_
 refine WA ?_
 refine WA ?_
 refine WA ?_
 refine WA ?_
 refine aw_loopw (fun m F H => ∃ (k cp : Nat) (lv : List (Value × Cel)), m + k = n ∧ lv.map Prod.snd = (List.range k).map (walC c) ∧ F = [(1, .c (I n)), (2, .p 0 0 0), (5, .p 1 0 0), (6, .o 2 0 lv.length cp), (7, .f (.func 216) [.p 0 0 0]), (12, .c (I n)), (13, .c (I (k : Nat)))] ∧ H = [celB va c, .box [.c (I 0), .c (I 0), .c (I 0), .c (.r (.slice none 0 0) [])], .arr 28 4 cp (cR lv)]) ?_ ?_
 ·refine wk_of [some 0, some 1, none] (fun _ => [(1, .c (I n)), (2, .p 0 0 0), (5, .p 1 0 0), (6, .o 2 0 0 0), (7, .f (.func 216) [.p 0 0 0]), (12, .c (I n)), (13, .c (I (0 : Nat)))]) (fun _ => [celB va c, .box [.c (I 0), .c (I 0), .c (I 0), .c (.r (.slice none 0 0) [])], .arr 28 4 0 (cR [])]) (by decide) (ZNL hE) ZCF ZCH (fun _ => ?_)
  exact ⟨n, 0, 0, [], by omega, rfl, rfl, rfl⟩
 rintro m F H ⟨k, cp, lv, hk, hlv, rfl, rfl⟩
 have hll : lv.length = k := by have := congrArg List.length hlv; simpa using this
 refine WA ?_
 refine aw_if rfl (fun hlt => ?_) (fun hge => ?_)
 ·obtain ⟨q1, q2, q3⟩ := wal_eq h k
  obtain ⟨q4, _, _⟩ := wal_eq h (k + 1)
  have hlB := covL_len q4
  have hmt := min_these h k
  have hth : ∀ pv vp v1, ACalls Tryz.prog 100 [celA v1 (celN c.st (shrL k (covL c))), .f (.func 218) [.c (.p pv [.r vp (sR (covL (celN c.st (shrL (k + 1) (covL c)))))])]] [] fun u H => ∃ v', u = celA v' (walC c k) ∧ H = [] := fun pv vp v1 => by
   have := these_v 218 [.c (.p pv [.r vp (sR (covL (celN c.st (shrL (k + 1) (covL c)))))])] rfl (by kernel_rfl) (fun q => !decide (q ∈ covL (celN c.st (shrL (k + 1) (covL c))))) v1 _ q1 (fun x y _ => notin_v pv vp _ hlB x y)
   rw [hmt] at this
   exact this
  have hnl : (List.range (k + 1)).map (walC c) = (List.range k).map (walC c) ++ [walC c k] := by rw [List.range_succ, List.map_append]; rfl
  generalize walC c k = W at *
  refine WA ?_
  clear hmt q3 q2
  have hd1 := depth_v va c h k (by omega)
  have hd2 := depth_v va c h (k + 1) (by omega)
  generalize hDA : celN c.st (shrL k (covL c)) = DA at *
  generalize hDB : celN c.st (shrL (k + 1) (covL c)) = DB at *
  refine WR ?_
  refine al_ef rfl (ef_call [0] (fun _ => [celB va c]) false (fun _ => hd1) rfl (.clo rfl) rfl (by decide) (by kernel_rfl) rfl ZCH (by decide) ZCH (by simp)) ?_
  rintro F1 H1 ⟨_, _, _, _, ⟨v1, rfl, rfl⟩, hF, hH⟩
  (refine NSU hF hH ?_; clear hF hH; rintro rfl rfl)
  refine WO ?_
  refine al_ef rfl (ef_call [0] (fun _ => [celB va c]) false (fun _ => hd2) rfl (.clo rfl) rfl (by decide) (by kernel_rfl) rfl ZCH (by decide) ZCH (by simp)) ?_
  rintro F1 H1 ⟨_, _, _, _, ⟨v2, rfl, rfl⟩, hF, hH⟩
  (refine NSU hF hH ?_; clear hF hH; rintro rfl rfl)
  refine al_ef rfl (ef_call0 false (fun _ => places_r v2 DB q4) rfl .fn rfl (by decide) (by kernel_rfl) rfl (fun _ => C0 rfl) (by simp)) ?_
  rintro _ _ ⟨_, _, _, ⟨vp, rfl, rfl⟩, hF, hH⟩
  (refine NST hF hH ?_; clear hF hH; rintro rfl rfl)
  refine WE ?_
  refine aw_wk (wk_of (K := fun F H => ∃ pv, F = [(1, .c (I n)), (2, .p 0 0 0), (5, .p 1 0 0), (6, .o 2 0 lv.length cp), (7, .f (.func 216) [.p 0 0 0]), (9, .p 3 0 0), (10, .c (.p pv [.r vp (sR (covL DB))])), (12, .c (I n)), (13, .c (I (k : Nat)))] ∧ H = [celB va c, .box [.c (I 0), .c (I 0), .c (I 0), .c (.r (.slice none 0 0) [])], .arr 28 4 cp (cR lv), celB v1 DA]) [some 0, some 1, some 2, some 3] (fun g => [(1, .c (I n)), (2, .p 0 0 0), (5, .p 1 0 0), (6, .o 2 0 lv.length cp), (7, .f (.func 216) [.p 0 0 0]), (9, .p 3 0 0), (10, .c (.p (g (.p 4 0 0)) [.r vp (sR (covL DB))])), (12, .c (I n)), (13, .c (I (k : Nat)))]) (fun _ => [celB va c, .box [.c (I 0), .c (I 0), .c (I 0), .c (.r (.slice none 0 0) [])], .arr 28 4 cp (cR lv), celB v1 DA]) (by decide) (ZNL hE) (fun g => .cons rfl (.c rfl) (.cons rfl (.p rfl) (.cons rfl (.p rfl) (.cons rfl (.o rfl rfl) (.cons rfl (.fL (.cons (.p rfl) .nil)) (.cons rfl (.p rfl) (.cons rfl (frzpL rfl rfl (.cons (.c rfl) .nil)) (.cons rfl (.c rfl) (.cons rfl (.c rfl) .nil))))))))) ZCH (fun _ => ⟨_, rfl, rfl⟩)) ?_
  rintro F H ⟨pv, rfl, rfl⟩
  refine WR ?_
  refine al_ef rfl (ef_call0 false (fun _ => hth pv vp v1) rfl .fn rfl (by decide) (by kernel_rfl) rfl (fun _ => C0 rfl) (by simp)) ?_
  rintro _ _ ⟨_, _, _, ⟨v3, rfl, rfl⟩, hF, hH⟩
  (refine NST hF hH ?_; clear hF hH; rintro rfl rfl)
  refine WO ?_
  refine al_ef rfl (Zapp (KA (t := 58) rfl)) ?_
  rintro _ _ ⟨_, cc, hcc, rfl, rfl⟩
  refine WE ?_
  refine WA ?_
  refine wk_of [some 0, some 1, some 2] (fun _ => [(1, .c (I n)), (2, .p 0 0 0), (5, .p 1 0 0), (6, .o 2 0 (lv ++ [(v3, W)]).length cc), (7, .f (.func 216) [.p 0 0 0]), (12, .c (I n)), (13, .c (I (k + 1 : Nat)))]) (fun _ => [celB va c, .box [.c (I 0), .c (I 0), .c (I 0), .c (.r (.slice none 0 0) [])], .arr 28 4 cc (cR (lv ++ [(v3, W)]))]) (by decide) (ZNL hE) ZCF ZCH (fun _ => ?_)
  exact ⟨m - 1, by omega, k + 1, cc, lv ++ [(v3, W)], by omega, by rw [List.map_append, hlv, hnl]; rfl, rfl, rfl⟩
 obtain rfl : k = n := by omega
 have hd1 := depth_v va c h k (by omega)
 generalize hDA : celN c.st (shrL k (covL c)) = DA at *
 refine ZZ ?_
 refine WR ?_
 refine al_ef rfl (ef_call [0] (fun _ => [celB va c]) false (fun _ => hd1) rfl (.clo rfl) rfl (by decide) (by kernel_rfl) rfl ZCH (by decide) ZCH (by simp)) ?_
 rintro F1 H1 ⟨_, _, _, _, ⟨v1, rfl, rfl⟩, hF, hH⟩
 (refine NSU hF hH ?_; clear hF hH; rintro rfl rfl)
 refine WE ?_
 exact aret_of (us := [.o 2 0 lv.length cp, celA v1 DA]) [some 2] (fun f => .t [.o 0 0 lv.length cp, celA v1 DA]) (fun _ => [.arr 28 4 cp (cR lv)]) (.tmp rfl (.cella (n := 4) rfl (by kernel_rfl) (Cells.box rfl) (by simp) (by (try simp only [nm, putL, Nat.reduceAdd, cellsOf, cvOf]) <;> rfl) .nil)) (by decide) (fun i hi => absurd hi (Nat.not_lt_zero i)) (fun g' => .tL (.cons (.o rfl rfl) (.cons (.aL (.cons (.c rfl) (.cons (.c rfl) (.cons (.c rfl) (.cons (.c rfl) .nil))))) .nil))) ZCH (fun g' => ⟨v1, lv, cp, rfl, hlv, rfl⟩)

abbrev wrow (A : Option Addr) (n cp : Nat) (vs : Value) (s : Cel) (vp : Value) (p : Cel) : List CV := [.s (.slice A n cp), I s.st, I s.x, I s.y, .r vs (tR s.rows), I p.st, I p.x, I p.y, .r vp (tR p.rows)]
set_option maxHeartbeats 8000000 in
theorem planof_w (va : Value) (l : List (Value × Cel)) (wn : Nat) (t b e : Int) (hw10 : wn ≤ 10) (ht50 : 0 ≤ t ∧ t ≤ 50) (hb50 : 0 ≤ b ∧ b ≤ 50) (hl : l.length ≤ 50) (hl1 : 1 ≤ l.length) (hnn : ∀ p ∈ l, NCel p.2) : ACalls Tryz.prog 108 [.c (.r va (cR l)), .a [.c (I wn), .c (I t), .c (I b), .c (I e)]] [] fun u H => ∃ (v : Value) (A : Option Addr) (cp : Nat) (lv : List (Value × Cel)) (vs : Value) (s : Cel) (vp : Value) (p : Cel) (R : List (List CV)), u = .c (.r v (wrow A lv.length cp vs s vp p :: R)) ∧ FilOk (Fil.mk vs lv (vs, s) (vp, p)) ∧ lv.length ≤ 10 ∧ H = [.arr 28 4 cp (cR lv), .eqv (.o 0 0 lv.length cp) (.slice A lv.length cp)] := by
 have e1 : (cR l).length = l.length := by simp
 refine acalls_of (N := 48) Tryz.func108 rfl rfl (by simp) fun E hE => ?_
 refine WA ?_
 refine WA ?_
 refine WA ?_
 refine aw_loopw (fun m F H => (m = l.length ∧ F = [(0, .c (.r va (cR l))), (3, .p 0 0 0), (5, .o 1 0 0 0), (12, .c (.r va (cR l))), (13, .c (I (cR l).length)), (14, .c (I (0 : Nat)))] ∧ H = [.box [.c (I wn), .c (I t), .c (I b), .c (I e)], .arr 60 9 0 []]) ∨ ∃ (i cp : Nat) (A0 : Option Addr) (cp0 : Nat) (lv0 : List (Value × Cel)) (ws : Value) (s : Cel) (wp : Value) (p : Cel) (R : List (List CV)), m + i = l.length ∧ FilOk (Fil.mk ws lv0 (ws, s) (wp, p)) ∧ lv0.length ≤ 10 ∧ R.length + 1 = i ∧ F = [(0, .c (.r va (cR l))), (3, .p 0 0 0), (5, .o 1 0 (wrow A0 lv0.length cp0 ws s wp p :: R).length cp), (12, .c (.r va (cR l))), (13, .c (I (cR l).length)), (14, .c (I i))] ∧ H = [.box [.c (I wn), .c (I t), .c (I b), .c (I e)], .arr 60 9 cp (wrow A0 lv0.length cp0 ws s wp p :: R), .arr 28 4 cp0 (cR lv0), .eqv (.o 2 0 lv0.length cp0) (.slice A0 lv0.length cp0)]) ?_ ?_
 ·refine wk_of [some 0, none] (fun _ => [(0, .c (.r va (cR l))), (3, .p 0 0 0), (5, .o 1 0 0 0), (12, .c (.r va (cR l))), (13, .c (I (cR l).length)), (14, .c (I (0 : Nat)))]) (fun _ => [.box [.c (I wn), .c (I t), .c (I b), .c (I e)], .arr 60 9 0 []]) (by decide) (ZNL hE) ZCF ZCH (fun _ => ?_)
  exact ⟨l.length, .inl ⟨rfl, rfl, rfl⟩⟩
 rintro m F H (⟨hm, rfl, rfl⟩ | ⟨i, cp, A0, cp0, lv0, ws, s, wp, p, R, hm, hok0, hl0, hRl, rfl, rfl⟩)
 ·have hlt : ((0 : Nat) : Int) < (cR l).length := by omega
  obtain ⟨i, hi0⟩ : ∃ i : Nat, i = 0 := ⟨0, rfl⟩
  rw [show (0 : Nat) = i from hi0.symm] at hlt
  simp only [show (I ((0 : Nat) : Int)) = I (i : Int) by rw [hi0]]
  refine WA ?_
  refine aw_cond_t rfl ?_
  obtain ⟨⟨vc, c⟩, hic⟩ : ∃ e, l[i]? = some e := ⟨_, List.getElem?_eq_getElem (by omega)⟩
  have hrow : (cR l)[i]? = some (celR vc c) := by rw [List.getElem?_map, hic]; rfl
  have hnc : NCel c := hnn _ (List.mem_of_getElem? hic)
  have hicc : (l.map Prod.snd)[i]? = some c := by rw [List.getElem?_map, hic]; rfl
  have hwal := wallsof_v vc c hnc wn hw10
  have hwao := wallsof_o vc c hnc wn hw10
  have hsol := solidof_v va l i t b ht50 hb50 hl hnn c vc hic
  have hrS : RCel (celN c.st (solL (l.map Prod.snd) i t b)) := (normC_ok hnc (sol_sub hicc)).2
  have hrR : RCel (celN c.st (shrL wn (covL c))) := (normC_ok hnc shr_sub).2
  obtain ⟨hb1, _⟩ := both_eq hnc (A := shrL wn (covL c)) (B' := solL (l.map Prod.snd) i t b) shr_sub
  obtain ⟨hm1, _⟩ := min_eq hnc (A := shrL wn (covL c)) (B' := solL (l.map Prod.snd) i t b) shr_sub
  have hlS := covL_len hrS
  have hth1 : ∀ pv vp v1, ACalls Tryz.prog 100 [celA v1 (celN c.st (shrL wn (covL c))), .f (.func 168) [.c (.p pv [.r vp (sR (covL (celN c.st (solL (l.map Prod.snd) i t b))))])]] [] fun u H => ∃ v', u = celA v' (celN c.st (botL (shrL wn (covL c)) (solL (l.map Prod.snd) i t b))) ∧ H = [] := fun pv vp v1 => by
   have := these_v 168 [.c (.p pv [.r vp (sR (covL (celN c.st (solL (l.map Prod.snd) i t b))))])] rfl (by kernel_rfl) (fun q => decide (q ∈ covL (celN c.st (solL (l.map Prod.snd) i t b)))) v1 _ hrR (fun x y _ => isin_v pv vp _ hlS x y)
   have h7 := hb1
   unfold botL at h7
   rw [h7] at this
   exact this
  have hth2 : ∀ qv fv pv vp v1, ACalls Tryz.prog 100 [celA v1 (celN c.st (shrL wn (covL c))), .f (.func 169) [.c (.p qv [.f fv (.func 168) [.p pv [.r vp (sR (covL (celN c.st (solL (l.map Prod.snd) i t b))))]]])]] [] fun u H => ∃ v', u = celA v' (celN c.st (minL (shrL wn (covL c)) (solL (l.map Prod.snd) i t b))) ∧ H = [] := fun qv fv pv vp v1 => by
   have := these_v 169 [.c (.p qv [.f fv (.func 168) [.p pv [.r vp (sR (covL (celN c.st (solL (l.map Prod.snd) i t b))))]]])] rfl (by kernel_rfl) (fun q => !decide (q ∈ covL (celN c.st (solL (l.map Prod.snd) i t b)))) v1 _ hrR (fun x y _ => isnot_v qv fv pv vp _ hlS x y)
   have h7 := hm1
   unfold minL at h7
   rw [h7] at this
   exact this
  have hfo : ∀ f : Fil, filC f = ((List.range wn).map (walC c), celN c.st (botL (shrL wn (covL c)) (solL (l.map Prod.snd) i t b)), celN c.st (minL (shrL wn (covL c)) (solL (l.map Prod.snd) i t b))) → FilOk f ∧ f.lv.length ≤ wn := fun f hf => ⟨pln_ok (l := l.map Prod.snd) (i := i) (t := t) (b := b) hnc f hf hw10, by
   have := congrArg List.length (Prod.mk.inj hf).1
   simpa using Nat.le_of_eq this⟩
  clear hrR hb1 hm1
  generalize celN c.st (botL (shrL wn (covL c)) (solL (l.map Prod.snd) i t b)) = SB at *
  generalize celN c.st (minL (shrL wn (covL c)) (solL (l.map Prod.snd) i t b)) = SM at *
  generalize celN c.st (solL (l.map Prod.snd) i t b) = SS at *
  generalize celN c.st (shrL wn (covL c)) = SR at *
  generalize (List.range wn).map (walC c) = WW at *
  refine WA ?_
  refine WR ?_
  refine al_ef rfl (ef_call0 false (fun _ => hwao) rfl .fn rfl (by decide) (by kernel_rfl) rfl (fun _ => C0 rfl) (by simp)) ?_
  rintro _ _ ⟨_, _, _, ⟨vr, lw, cpw, rfl, hlw, rfl⟩, hF, hH⟩
  (refine NSU hF hH ?_; clear hF hH; rintro rfl rfl)
  refine WE ?_
  refine aw_ghost (i := 8) rfl fun A0 => ?_
  refine WR ?_
  refine al_ef rfl (ef_call0 false (fun _ => hsol) rfl .fn rfl (by decide) (by kernel_rfl) rfl (fun _ => C0 rfl) (by simp)) ?_
  rintro _ _ ⟨_, _, _, ⟨vsl, rfl, rfl⟩, hF, hH⟩
  (refine NST hF hH ?_; clear hF hH; rintro rfl rfl)
  refine al_ef rfl (ef_call0 false (fun _ => places_r vsl SS hrS) rfl .fn rfl (by decide) (by kernel_rfl) rfl (fun _ => C0 rfl) (by simp)) ?_
  rintro _ _ ⟨_, _, _, ⟨vp, rfl, rfl⟩, hF, hH⟩
  (refine NST hF hH ?_; clear hF hH; rintro rfl rfl)
  refine WE ?_
  refine WA ?_
  refine aw_wk (wk_of (K := fun F H => ∃ qv fv pv, F = [(0, .c (.r va (cR l))), (3, .p 0 0 0), (5, .o 1 0 0 0), (8, .c (.s (.slice A0 lw.length cpw))), (9, .p 2 0 0), (11, .c (.p qv [.f fv (.func 168) [.p pv [.r vp (sR (covL SS))]]])), (12, .c (.r va (cR l))), (13, .c (I (cR l).length)), (14, .c (I i))] ∧ H = [.box [.c (I wn), .c (I t), .c (I b), .c (I e)], .arr 60 9 0 [], celB vr SR, .arr 28 4 cpw (cR lw), .eqv (.o 3 0 lw.length cpw) (.slice A0 lw.length cpw)]) [some 0, some 1, some 4, some 3, some 5] (fun g => [(0, .c (.r va (cR l))), (3, .p 0 0 0), (5, .o 1 0 0 0), (8, .c (.s (.slice A0 lw.length cpw))), (9, .p 2 0 0), (11, .c (.p (g (.p 7 0 0)) [.f (g (.f (.func 168) [.p 6 0 0])) (.func 168) [.p (g (.p 6 0 0)) [.r vp (sR (covL SS))]]])), (12, .c (.r va (cR l))), (13, .c (I (cR l).length)), (14, .c (I i))]) (fun _ => [.box [.c (I wn), .c (I t), .c (I b), .c (I e)], .arr 60 9 0 [], celB vr SR, .arr 28 4 cpw (cR lw), .eqv (.o 3 0 lw.length cpw) (.slice A0 lw.length cpw)]) (by decide) (ZNL hE) (fun g => .cons rfl (.c rfl) (.cons rfl (.p rfl) (.cons rfl (.o rfl rfl) (.cons rfl (.c rfl) (.cons rfl (.p rfl) (.cons rfl (frzpL rfl rfl (.cons (frzfL (.cons (frzpL rfl rfl (.cons (.c rfl) .nil)) .nil)) .nil)) (.cons rfl (.c rfl) (.cons rfl (.c rfl) (.cons rfl (.c rfl) .nil))))))))) ZCG (fun _ => ⟨_, _, _, rfl, rfl⟩)) ?_
  rintro F H ⟨qv, fv, pv, rfl, rfl⟩
  refine ZZ ?_
  refine aw_regionT [(0, none), (1, none), (2, none), (3, none), (5, none), (6, none), (4, some [0, 1, 5, 6]), (7, some [0, 1]), (8, none), (9, some [0]), (10, some []), (11, none)] hMixed (by kernel_rfl) ?_
  iterate 3 refine WX2 ?_
  refine ZT rfl (rd_ldcp rfl (by kernel_rfl) rfl rfl) ?_
  refine WP ?_
  refine at_ef rfl rfl (ef_call0 false (fun _ => hth1 pv vp vr) rfl .fn rfl (by decide) (by kernel_rfl) rfl (fun _ => .cons (cvt_clo _ _ _ _ _ rfl) (.cons .unf .nil)) (by simp)) ?_
  rintro _ _ ⟨_, _, _, ⟨vs, rfl, rfl⟩, hF, hH⟩
  (refine NST hF hH ?_; clear hF hH; rintro rfl rfl)
  refine ⟨ag_cons (by first | exact ag_rd rfl rfl rfl (rd_move rfl rfl) rfl) (ag_cons (by first | exact ag_rd rfl rfl rfl (rd_move rfl rfl) rfl) (ag_cons (by first | exact ag_rd rfl rfl rfl (ZK (KK (t := 28) rfl)) rfl) (ag_cons (by first | exact ag_rd rfl rfl rfl (rd_makeFunc rfl rfl) rfl) (ag_none)))), ?_⟩
  refine at_ef rfl rfl (ef_call0 false (fun _ => hth2 qv fv pv vp vr) rfl .fn rfl (by decide) (by kernel_rfl) rfl (fun _ => C0 rfl) (by simp)) ?_
  rintro _ _ ⟨_, _, _, ⟨vm, rfl, rfl⟩, hF, hH⟩
  (refine NST hF hH ?_; clear hF hH; rintro rfl rfl)
  refine ⟨ag_cons (by first | exact ag_rd rfl rfl rfl (rd_move rfl rfl) rfl) (ag_cons (by first | exact ag_rd rfl rfl rfl (rd_move rfl rfl) rfl) (ag_none)), ?_⟩
  refine WP ?_
  refine at_ef rfl rfl (Zapp (KA (t := 86) rfl)) ?_
  rintro _ _ ⟨_, cc, hcc, rfl, rfl⟩
  refine ⟨ag_none, ?_⟩
  refine WQ ?_
  all_goals (
   refine WA ?_
   refine wk_of [some 0, some 1, some 3, some 4] (fun _ => [(0, .c (.r va (cR l))), (3, .p 0 0 0), (5, .o 1 0 ([wrow A0 lw.length cpw vs SB vm SM]).length cc), (12, .c (.r va (cR l))), (13, .c (I (cR l).length)), (14, .c (I (1 : Nat)))]) (fun _ => [.box [.c (I wn), .c (I t), .c (I b), .c (I e)], .arr 60 9 cc ([wrow A0 lw.length cpw vs SB vm SM]), .arr 28 4 cpw (cR lw), .eqv (.o 2 0 lw.length cpw) (.slice A0 lw.length cpw)]) (by decide) (ZNL hE) ZCF ZCG (fun _ => ?_)
   exact ⟨m - 1, by omega, .inr ⟨1, cc, A0, cpw, lw, vs, SB, vm, SM, [], by omega, (hfo (Fil.mk vs lw (vs, SB) (vm, SM)) (by rw [filC, hlw])).1, by have := (hfo (Fil.mk vs lw (vs, SB) (vm, SM)) (by rw [filC, hlw])).2; simp only at this; omega, rfl, rfl, rfl⟩⟩)
 ·generalize hrow0 : wrow A0 lv0.length cp0 ws s wp p = row0 at *
  have hR0 : (row0 :: R).length = R.length + 1 := rfl
  refine WA ?_
  refine aw_if rfl (fun hlt => ?_) (fun hge => ?_)
  ·obtain ⟨⟨vc, c⟩, hic⟩ : ∃ e, l[i]? = some e := ⟨_, List.getElem?_eq_getElem (by omega)⟩
   have hrow : (cR l)[i]? = some (celR vc c) := by rw [List.getElem?_map, hic]; rfl
   have hnc : NCel c := hnn _ (List.mem_of_getElem? hic)
   have hicc : (l.map Prod.snd)[i]? = some c := by rw [List.getElem?_map, hic]; rfl
   have hwal := wallsof_v vc c hnc wn hw10
   have hwao := wallsof_o vc c hnc wn hw10
   have hsol := solidof_v va l i t b ht50 hb50 hl hnn c vc hic
   have hrS : RCel (celN c.st (solL (l.map Prod.snd) i t b)) := (normC_ok hnc (sol_sub hicc)).2
   have hrR : RCel (celN c.st (shrL wn (covL c))) := (normC_ok hnc shr_sub).2
   obtain ⟨hb1, _⟩ := both_eq hnc (A := shrL wn (covL c)) (B' := solL (l.map Prod.snd) i t b) shr_sub
   obtain ⟨hm1, _⟩ := min_eq hnc (A := shrL wn (covL c)) (B' := solL (l.map Prod.snd) i t b) shr_sub
   have hlS := covL_len hrS
   have hth1 : ∀ pv vp v1, ACalls Tryz.prog 100 [celA v1 (celN c.st (shrL wn (covL c))), .f (.func 168) [.c (.p pv [.r vp (sR (covL (celN c.st (solL (l.map Prod.snd) i t b))))])]] [] fun u H => ∃ v', u = celA v' (celN c.st (botL (shrL wn (covL c)) (solL (l.map Prod.snd) i t b))) ∧ H = [] := fun pv vp v1 => by
    have := these_v 168 [.c (.p pv [.r vp (sR (covL (celN c.st (solL (l.map Prod.snd) i t b))))])] rfl (by kernel_rfl) (fun q => decide (q ∈ covL (celN c.st (solL (l.map Prod.snd) i t b)))) v1 _ hrR (fun x y _ => isin_v pv vp _ hlS x y)
    have h7 := hb1
    unfold botL at h7
    rw [h7] at this
    exact this
   have hth2 : ∀ qv fv pv vp v1, ACalls Tryz.prog 100 [celA v1 (celN c.st (shrL wn (covL c))), .f (.func 169) [.c (.p qv [.f fv (.func 168) [.p pv [.r vp (sR (covL (celN c.st (solL (l.map Prod.snd) i t b))))]]])]] [] fun u H => ∃ v', u = celA v' (celN c.st (minL (shrL wn (covL c)) (solL (l.map Prod.snd) i t b))) ∧ H = [] := fun qv fv pv vp v1 => by
    have := these_v 169 [.c (.p qv [.f fv (.func 168) [.p pv [.r vp (sR (covL (celN c.st (solL (l.map Prod.snd) i t b))))]]])] rfl (by kernel_rfl) (fun q => !decide (q ∈ covL (celN c.st (solL (l.map Prod.snd) i t b)))) v1 _ hrR (fun x y _ => isnot_v qv fv pv vp _ hlS x y)
    have h7 := hm1
    unfold minL at h7
    rw [h7] at this
    exact this
   have hfo : ∀ f : Fil, filC f = ((List.range wn).map (walC c), celN c.st (botL (shrL wn (covL c)) (solL (l.map Prod.snd) i t b)), celN c.st (minL (shrL wn (covL c)) (solL (l.map Prod.snd) i t b))) → FilOk f ∧ f.lv.length ≤ wn := fun f hf => ⟨pln_ok (l := l.map Prod.snd) (i := i) (t := t) (b := b) hnc f hf hw10, by
    have := congrArg List.length (Prod.mk.inj hf).1
    simpa using Nat.le_of_eq this⟩
   clear hrR hb1 hm1
   generalize celN c.st (botL (shrL wn (covL c)) (solL (l.map Prod.snd) i t b)) = SB at *
   generalize celN c.st (minL (shrL wn (covL c)) (solL (l.map Prod.snd) i t b)) = SM at *
   generalize celN c.st (solL (l.map Prod.snd) i t b) = SS at *
   generalize celN c.st (shrL wn (covL c)) = SR at *
   generalize (List.range wn).map (walC c) = WW at *
   refine WA ?_
   refine WR ?_
   refine al_ef rfl (ef_call0 false (fun _ => hwal) rfl .fn rfl (by decide) (by kernel_rfl) rfl (fun _ => C0 rfl) (by simp)) ?_
   rintro _ _ ⟨_, _, _, ⟨vr, vw, lw, rfl, hlw, rfl⟩, hF, hH⟩
   (refine NST hF hH ?_; clear hF hH; rintro rfl rfl)
   refine WE ?_
   refine WR ?_
   refine al_ef rfl (ef_call0 false (fun _ => hsol) rfl .fn rfl (by decide) (by kernel_rfl) rfl (fun _ => C0 rfl) (by simp)) ?_
   rintro _ _ ⟨_, _, _, ⟨vsl, rfl, rfl⟩, hF, hH⟩
   (refine NST hF hH ?_; clear hF hH; rintro rfl rfl)
   refine al_ef rfl (ef_call0 false (fun _ => places_r vsl SS hrS) rfl .fn rfl (by decide) (by kernel_rfl) rfl (fun _ => C0 rfl) (by simp)) ?_
   rintro _ _ ⟨_, _, _, ⟨vp, rfl, rfl⟩, hF, hH⟩
   (refine NST hF hH ?_; clear hF hH; rintro rfl rfl)
   refine WE ?_
   refine WA ?_
   refine aw_wk (wk_of (K := fun F H => ∃ qv fv pv, F = [(0, .c (.r va (cR l))), (3, .p 0 0 0), (5, .o 1 0 (row0 :: R).length cp), (8, .c (.r vw (cR lw))), (9, .p 2 0 0), (11, .c (.p qv [.f fv (.func 168) [.p pv [.r vp (sR (covL SS))]]])), (12, .c (.r va (cR l))), (13, .c (I (cR l).length)), (14, .c (I i))] ∧ H = [.box [.c (I wn), .c (I t), .c (I b), .c (I e)], .arr 60 9 cp (row0 :: R), celB vr SR, .arr 28 4 cp0 (cR lv0), .eqv (.o 3 0 lv0.length cp0) (.slice A0 lv0.length cp0)]) [some 0, some 1, some 5, some 2, some 3] (fun g => [(0, .c (.r va (cR l))), (3, .p 0 0 0), (5, .o 1 0 (row0 :: R).length cp), (8, .c (.r vw (cR lw))), (9, .p 2 0 0), (11, .c (.p (g (.p 7 0 0)) [.f (g (.f (.func 168) [.p 6 0 0])) (.func 168) [.p (g (.p 6 0 0)) [.r vp (sR (covL SS))]]])), (12, .c (.r va (cR l))), (13, .c (I (cR l).length)), (14, .c (I i))]) (fun _ => [.box [.c (I wn), .c (I t), .c (I b), .c (I e)], .arr 60 9 cp (row0 :: R), celB vr SR, .arr 28 4 cp0 (cR lv0), .eqv (.o 3 0 lv0.length cp0) (.slice A0 lv0.length cp0)]) (by decide) (ZNL hE) (fun g => .cons rfl (.c rfl) (.cons rfl (.p rfl) (.cons rfl (.o rfl rfl) (.cons rfl (.c rfl) (.cons rfl (.p rfl) (.cons rfl (frzpL rfl rfl (.cons (frzfL (.cons (frzpL rfl rfl (.cons (.c rfl) .nil)) .nil)) .nil)) (.cons rfl (.c rfl) (.cons rfl (.c rfl) (.cons rfl (.c rfl) .nil))))))))) ZCG (fun _ => ⟨_, _, _, rfl, rfl⟩)) ?_
   rintro F H ⟨qv, fv, pv, rfl, rfl⟩
   refine ZZ ?_
   refine aw_regionT [(0, none), (1, none), (2, none), (3, none), (5, none), (6, none), (4, some [0, 1, 5, 6]), (7, some [0, 1]), (8, none), (9, some [0]), (10, some []), (11, none)] hMixed (by kernel_rfl) ?_
   iterate 3 refine WX2 ?_
   refine ZT rfl (rd_ldcp rfl (by kernel_rfl) rfl rfl) ?_
   refine WP ?_
   refine at_ef rfl rfl (ef_call0 false (fun _ => hth1 pv vp vr) rfl .fn rfl (by decide) (by kernel_rfl) rfl (fun _ => .cons (cvt_clo _ _ _ _ _ rfl) (.cons .unf .nil)) (by simp)) ?_
   rintro _ _ ⟨_, _, _, ⟨vs, rfl, rfl⟩, hF, hH⟩
   (refine NST hF hH ?_; clear hF hH; rintro rfl rfl)
   refine ⟨ag_cons (by first | exact ag_rd rfl rfl rfl (rd_move rfl rfl) rfl) (ag_cons (by first | exact ag_rd rfl rfl rfl (rd_move rfl rfl) rfl) (ag_cons (by first | exact ag_rd rfl rfl rfl (ZK (KK (t := 28) rfl)) rfl) (ag_cons (by first | exact ag_rd rfl rfl rfl (rd_makeFunc rfl rfl) rfl) (ag_none)))), ?_⟩
   refine at_ef rfl rfl (ef_call0 false (fun _ => hth2 qv fv pv vp vr) rfl .fn rfl (by decide) (by kernel_rfl) rfl (fun _ => C0 rfl) (by simp)) ?_
   rintro _ _ ⟨_, _, _, ⟨vm, rfl, rfl⟩, hF, hH⟩
   (refine NST hF hH ?_; clear hF hH; rintro rfl rfl)
   refine ⟨ag_cons (by first | exact ag_rd rfl rfl rfl (rd_move rfl rfl) rfl) (ag_cons (by first | exact ag_rd rfl rfl rfl (rd_move rfl rfl) rfl) (ag_none)), ?_⟩
   refine WP ?_
   refine at_ef rfl rfl (Zapp (KA (t := 86) rfl)) ?_
   rintro _ _ ⟨_, cc, hcc, rfl, rfl⟩
   refine ⟨ag_none, ?_⟩
   refine WQ ?_
   all_goals (
    refine WA ?_
    refine wk_of [some 0, some 1, some 3, some 4] (fun _ => [(0, .c (.r va (cR l))), (3, .p 0 0 0), (5, .o 1 0 (row0 :: (R ++ [filR (Fil.mk vw lw (vs, SB) (vm, SM))])).length cc), (12, .c (.r va (cR l))), (13, .c (I (cR l).length)), (14, .c (I (i + 1 : Nat)))]) (fun _ => [.box [.c (I wn), .c (I t), .c (I b), .c (I e)], .arr 60 9 cc (row0 :: (R ++ [filR (Fil.mk vw lw (vs, SB) (vm, SM))])), .arr 28 4 cp0 (cR lv0), .eqv (.o 2 0 lv0.length cp0) (.slice A0 lv0.length cp0)]) (by decide) (ZNL hE) ZCF ZCG (fun _ => ?_)
    exact ⟨m - 1, by omega, .inr ⟨i + 1, cc, A0, cp0, lv0, ws, s, wp, p, R ++ [filR (Fil.mk vw lw (vs, SB) (vm, SM))], by omega, hok0, hl0, by simp; omega, by rw [hrow0], by rw [hrow0]⟩⟩)
  obtain rfl : i = l.length := by omega
  subst hrow0
  refine ZZ ?_
  refine WA ?_
  exact aret_f1 [some 2, some 3] [.arr 28 4 cp0 (cR lv0), .eqv (.o 0 0 lv0.length cp0) (.slice A0 lv0.length cp0)] rfl rfl rfl rfl (by rw [List.drop_zero, List.take_of_length_le (by simp)]) (by simp) rfl (by decide) (ZNK rfl) ZCG (fun q => ⟨q, A0, cp0, lv0, ws, s, wp, p, R, rfl, hok0, hl0, rfl⟩)
end Go.Proofs.YtniolldgidgffaaGreatDoor
