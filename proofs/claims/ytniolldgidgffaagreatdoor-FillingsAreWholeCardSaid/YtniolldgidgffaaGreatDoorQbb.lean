/- The reference's fault of cells is the program's: plain. -/
import Derived.Test.YtniolldgidgffaaGreatDoorQba
import Derived.Test.YtniolldgidgffaaGreatDoorQau
set_option linter.unusedSimpArgs false
set_option linter.unusedVariables false
/- Walls of near cells: shrinking and minus without faults, by value. -/
-- NEWM
namespace Go.Proofs.YtniolldgidgffaaGreatDoor
open Go Go.RowKit
set_option maxRecDepth 100000
theorem fshr_v (va : Value) (ca : Cel) (h : NCel ca) (n : Nat) (hn : n ≤ 20) : ACalls Tryz.prog 175 [celA va ca, .c (I n)] [] fun u H => ∃ v', u = celA v' (celN ca.st (shrL n (covL ca))) ∧ H = [] := by
 have hok := (normC_ok h (L := shrL n (covL ca)) (fun p hp => (List.mem_filter.1 hp).1)).1
 generalize celN ca.st (shrL n (covL ca)) = R at *
 refine acalls_of (N := 12) Tryz.func175 rfl rfl (by simp) fun E hE => ?_
 refine WA ?_
 refine WR ?_
 refine al_ef rfl (ef_call0 false (fun _ => shrunk_v va ca h.r n hn) rfl .fn rfl (by decide) (by kernel_rfl) rfl (fun _ => C0 rfl) (by simp)) ?_
 rintro _ _ ⟨_, _, _, ⟨v', rfl, rfl⟩, hF, hH⟩
 rw [hok] at hF
 (refine NST hF hH ?_; clear hF hH; rintro rfl rfl)
 refine WE ?_
 refine WA ?_
 exact aret_a [] [] rfl (k := 4) (by kernel_rfl) rfl (Cells.box rfl) (by simp) (by (try simp only [nm, putL, Nat.reduceAdd, cellsOf, cvOf]) <;> rfl) (by decide) (ZNK rfl) (fun _ => C0 rfl) (fun _ => .nil) ⟨v', rfl, rfl⟩
theorem fmin_v (va vb : Value) (ca cb : Cel) (ha : RCel ca) (hb : RCel cb) (hs : ca.st = cb.st) (hok : normC ca.st (minL (covL ca) (covL cb)) = (celN ca.st (minL (covL ca) (covL cb)), 0)) : ACalls Tryz.prog 112 [celA va ca, celA vb cb] [] fun u H => ∃ v', u = celA v' (celN ca.st (minL (covL ca) (covL cb))) ∧ H = [] := by
 generalize celN ca.st (minL (covL ca) (covL cb)) = R at *
 refine acalls_of (N := 14) Tryz.func112 rfl rfl (by simp) fun E hE => ?_
 refine WA ?_
 refine WR ?_
 refine al_ef rfl (ef_call0 false (fun _ => minus_v va vb ca cb ha hb hs) rfl .fn rfl (by decide) (by kernel_rfl) rfl (fun _ => C0 rfl) (by simp)) ?_
 rintro _ _ ⟨_, _, _, ⟨v', rfl, rfl⟩, hF, hH⟩
 rw [hok] at hF
 (refine NST hF hH ?_; clear hF hH; rintro rfl rfl)
 refine WE ?_
 refine WA ?_
 exact aret_a [] [] rfl (k := 4) (by kernel_rfl) rfl (Cells.box rfl) (by simp) (by (try simp only [nm, putL, Nat.reduceAdd, cellsOf, cvOf]) <;> rfl) (by decide) (ZNK rfl) (fun _ => C0 rfl) (fun _ => .nil) ⟨v', rfl, rfl⟩
end Go.Proofs.YtniolldgidgffaaGreatDoor

/- Walls of near cells, by value. -/
-- NEWM
namespace Go.Proofs.YtniolldgidgffaaGreatDoor
open Go Go.RowKit
set_option maxRecDepth 100000
theorem celN_st (st : Int) (L : List Spot) : (celN st L).st = st := by unfold celN; split <;> rfl
abbrev walC (c : Cel) (k : Nat) : Cel := celN c.st (minL (shrL k (covL c)) (shrL (k + 1) (covL c)))
theorem wal_eq {c : Cel} (h : NCel c) (k : Nat) : RCel (celN c.st (shrL k (covL c))) ∧ minL (covL (celN c.st (shrL k (covL c)))) (covL (celN c.st (shrL (k + 1) (covL c)))) ⊆ covL c ∧ celN c.st (minL (covL (celN c.st (shrL k (covL c)))) (covL (celN c.st (shrL (k + 1) (covL c))))) = walC c k := by
 have hst : 0 < c.st := by have := h.r.st; omega
 have hm : ∀ q, q ∈ minL (covL (celN c.st (shrL k (covL c)))) (covL (celN c.st (shrL (k + 1) (covL c)))) ↔ q ∈ minL (shrL k (covL c)) (shrL (k + 1) (covL c)) := fun q => by
  unfold minL
  rw [List.mem_filter, List.mem_filter, covL_celN hst]
  simp only [Bool.not_eq_true', decide_eq_false_iff_not, covL_celN hst]
 exact ⟨(normC_ok h (fun p hp => (List.mem_filter.1 hp).1)).2, fun p hp => (List.mem_filter.1 (List.mem_filter.1 ((hm p).1 hp)).1).1, celN_mem hm⟩
abbrev cR (l : List (Value × Cel)) : List (List CV) := l.map fun p => celR p.1 p.2
set_option maxHeartbeats 2000000 in
theorem walls_v (va : Value) (ca : Cel) (h : NCel ca) (n : Nat) (hn : n ≤ 10) : ACalls Tryz.prog 119 [celA va ca, .c (I n)] [] fun u H => ∃ (v w : Value) (lv : List (Value × Cel)), u = .t [.c (.r w (cR lv)), celA v (celN ca.st (shrL n (covL ca)))] ∧ lv.map Prod.snd = (List.range n).map (walC ca) ∧ H = [] := by
 refine acalls_of (N := 28) Tryz.func119 rfl rfl (by simp) fun E hE => ?_
 refine WA ?_
 refine WA ?_
 refine WA ?_
 refine aw_loopw (fun m F H => ∃ (k c : Nat) (lv : List (Value × Cel)), m + k = n ∧ lv.map Prod.snd = (List.range k).map (walC ca) ∧ F = [(1, .c (I n)), (2, .p 0 0 0), (5, .p 1 0 0), (6, .o 2 0 lv.length c), (8, .c (I n)), (9, .c (I (k : Nat)))] ∧ H = [celB va ca, .box [.c (I 0), .c (I 0), .c (I 0), .c (.r (.slice none 0 0) [])], .arr 28 4 c (cR lv)]) ?_ ?_
 ·refine wk_of [some 0, some 1, none] (fun _ => [(1, .c (I n)), (2, .p 0 0 0), (5, .p 1 0 0), (6, .o 2 0 0 0), (8, .c (I n)), (9, .c (I (0 : Nat)))]) (fun _ => [celB va ca, .box [.c (I 0), .c (I 0), .c (I 0), .c (.r (.slice none 0 0) [])], .arr 28 4 0 (cR [])]) (by decide) (ZNL hE) ZCF ZCH (fun _ => ?_)
  exact ⟨n, 0, 0, [], by omega, rfl, rfl, rfl⟩
 rintro m F H ⟨k, c, lv, hk, hlv, rfl, rfl⟩
 have hll : lv.length = k := by have := congrArg List.length hlv; simpa using this
 refine WA ?_
 refine aw_if rfl (fun hlt => ?_) (fun hge => ?_)
 ·obtain ⟨q1, q2, q3⟩ := wal_eq h k
  obtain ⟨q4, _, _⟩ := wal_eq h (k + 1)
  have hmin : ∀ v1 v2, ACalls Tryz.prog 112 [celA v1 (celN ca.st (shrL k (covL ca))), celA v2 (celN ca.st (shrL (k + 1) (covL ca)))] [] fun u H => ∃ v', u = celA v' (walC ca k) ∧ H = [] := fun v1 v2 => by
   have := fmin_v v1 v2 _ _ q1 q4 (by rw [celN_st, celN_st]) (by rw [celN_st]; exact (normC_ok h q2).1)
   rw [celN_st, q3] at this
   exact this
  have hnl : (List.range (k + 1)).map (walC ca) = (List.range k).map (walC ca) ++ [walC ca k] := by rw [List.range_succ, List.map_append]; rfl
  generalize walC ca k = W at *
  refine WA ?_
  refine ZZ ?_
  refine aw_regionT [(0, none), (1, none), (2, none), (4, none), (5, none), (6, none), (3, some [0, 4, 5, 6]), (7, some [0]), (8, some [0]), (9, some [0]), (10, some []), (11, none)] hMixed (by kernel_rfl) ?_
  refine WP ?_
  refine at_ef rfl rfl (ef_call0 false (fun _ => fshr_v va ca h k (by omega)) rfl .fn rfl (by decide) (by kernel_rfl) rfl (fun _ => C0 rfl) (by simp)) ?_
  rintro _ _ ⟨_, _, _, ⟨v1, rfl, rfl⟩, hF, hH⟩
  (refine NST hF hH ?_; clear hF hH; rintro rfl rfl)
  refine ⟨ag_cons (by first | exact ag_rd rfl rfl rfl (rd_move rfl rfl) rfl) (ag_cons (by first | exact ag_rd rfl rfl rfl (ZK (KK (t := 28) rfl)) rfl) (ag_cons (by first | exact ag_rd rfl rfl rfl (rd_move rfl rfl) rfl) (ag_cons (by first | exact ag_rd rfl rfl rfl (Zadd) rfl) (ag_none)))), ?_⟩
  refine at_ef rfl rfl (ef_call0 false (fun _ => fshr_v va ca h (k + 1) (by omega)) rfl .fn rfl (by decide) (by kernel_rfl) rfl (fun _ => C0 rfl) (by simp)) ?_
  rintro _ _ ⟨_, _, _, ⟨v2, rfl, rfl⟩, hF, hH⟩
  (refine NST hF hH ?_; clear hF hH; rintro rfl rfl)
  refine ⟨ag_cons (by first | exact ag_rd rfl rfl rfl (rd_move rfl rfl) rfl) (ag_none), ?_⟩
  refine at_ef rfl rfl (ef_call0 false (fun _ => hmin v1 v2) rfl .fn rfl (by decide) (by kernel_rfl) rfl (fun _ => C0 rfl) (by simp)) ?_
  rintro _ _ ⟨_, _, _, ⟨v3, rfl, rfl⟩, hF, hH⟩
  (refine NST hF hH ?_; clear hF hH; rintro rfl rfl)
  refine ⟨ag_cons (by first | exact ag_rd rfl rfl rfl (rd_move rfl rfl) rfl) (ag_none), ?_⟩
  refine WP ?_
  refine at_ef rfl rfl (Zapp (KA (t := 58) rfl)) ?_
  rintro _ _ ⟨_, cc, hcc, rfl, rfl⟩
  refine ⟨ag_none, ?_⟩
  refine WQ ?_
  all_goals (
   refine WA ?_
   refine wk_of [some 0, some 1, some 2] (fun _ => [(1, .c (I n)), (2, .p 0 0 0), (5, .p 1 0 0), (6, .o 2 0 (lv ++ [(v3, W)]).length cc), (8, .c (I n)), (9, .c (I (k + 1 : Nat)))]) (fun _ => [celB va ca, .box [.c (I 0), .c (I 0), .c (I 0), .c (.r (.slice none 0 0) [])], .arr 28 4 cc (cR (lv ++ [(v3, W)]))]) (by decide) (ZNL hE) ZCF ZCH (fun _ => ?_)
   exact ⟨m - 1, by omega, k + 1, cc, lv ++ [(v3, W)], by omega, by rw [List.map_append, hlv, hnl]; rfl, rfl, rfl⟩)
 obtain rfl : k = n := by omega
 refine ZZ ?_
 refine WR ?_
 refine al_ef rfl (ef_call0 false (fun _ => fshr_v va ca h k (by omega)) rfl .fn rfl (by decide) (by kernel_rfl) rfl (fun _ => C0 rfl) (by simp)) ?_
 rintro _ _ ⟨_, _, _, ⟨v1, rfl, rfl⟩, hF, hH⟩
 (refine NST hF hH ?_; clear hF hH; rintro rfl rfl)
 refine WE ?_
 exact aret_of (us := [.o 2 0 lv.length c, celA v1 (celN ca.st (shrL k (covL ca)))]) [] (fun f => .t [.c (.r (f (.o 2 0 lv.length c)) (cR lv)), celA v1 (celN ca.st (shrL k (covL ca)))]) (fun _ => []) (.tmp rfl (.cella (n := 4) rfl (by kernel_rfl) (Cells.box rfl) (by simp) (by (try simp only [nm, putL, Nat.reduceAdd, cellsOf, cvOf]) <;> rfl) .nil)) (by decide) (fun i hi => absurd hi (Nat.not_lt_zero i)) (fun g' => .tL (.cons (.frz rfl rfl (by rw [List.drop_zero, List.take_of_length_le (by simp)]) (by simp) rfl) (.cons (.aL (.cons (.c rfl) (.cons (.c rfl) (.cons (.c rfl) (.cons (.c rfl) .nil))))) .nil))) (fun _ => .nil) (fun g' => ⟨v1, _, lv, rfl, hlv, rfl⟩)
end Go.Proofs.YtniolldgidgffaaGreatDoor

/- Walls, by value. -/
-- NEWM
namespace Go.Proofs.YtniolldgidgffaaGreatDoor
open Go Go.RowKit
set_option maxRecDepth 100000
def walF (c : Cel) (n : Int) : Int := if celF c ≠ 0 then celF c else if outB n 0 10 = true then 1 else 0
set_option maxHeartbeats 2000000 in
theorem wallsT_v (va : Value) (ca : Cel) (n : Int) (hl : ca.rows.length ≤ 1000000000) (hr : ∀ r ∈ ca.rows, r.length ≤ 1000000000) (hnr : RCel ca → NCel ca) : ACalls Tryz.prog 46 [celA va ca, .c (I n)] [] fun u H => ∃ (v w : Value) (lv : List (Value × Cel)) (S : Cel), u = .t [.c (.r w (cR lv)), celA v S, .c (I (walF ca n))] ∧ (walF ca n ≠ 0 → lv = [] ∧ S = ⟨0, 0, 0, []⟩) ∧ (walF ca n = 0 → NCel ca ∧ ∃ k : Nat, n = k ∧ k ≤ 10 ∧ lv.map Prod.snd = (List.range k).map (walC ca) ∧ S = celN ca.st (shrL k (covL ca))) ∧ H = [] := by
 obtain ⟨q, hq⟩ : ∃ q, celF ca = q := ⟨_, rfl⟩
 have hwf : walF ca n = if q ≠ 0 then q else if outB n 0 10 = true then 1 else 0 := by rw [walF, hq]
 rw [hwf]
 refine acalls_of (N := 27) Tryz.func46 rfl rfl (by simp) fun E hE => ?_
 refine WA ?_
 refine WR ?_
 refine al_ef rfl (ef_call0 false (fun _ => check_v va ca hl hr) rfl .fn rfl (by decide) (by kernel_rfl) rfl (fun _ => C0 rfl) (by simp)) ?_
 rintro _ _ ⟨_, _, _, ⟨rfl, rfl⟩, hF, hH⟩
 rw [hq] at hF
 (refine NST hF hH ?_; clear hF hH; rintro rfl rfl)
 refine WE ?_
 refine WA ?_
 refine aw_if rfl (fun h1 => ?_) (fun h1 => ?_)
 ·rw [if_pos h1]
  refine WA ?_
  exact aret_of (us := [.c (.r (.slice none 0 0) []), .a [.c (I 0), .c (I 0), .c (I 0), .c (.r (.slice none 0 0) [])], .c (I q)]) [] (fun _ => .t [.c (.r (.slice none 0 0) []), .a [.c (I 0), .c (I 0), .c (I 0), .c (.r (.slice none 0 0) [])], .c (I q)]) (fun _ => []) (.tmp rfl (.cella (n := 4) rfl (by kernel_rfl) (Cells.box rfl) (by simp) (by (try simp only [nm, putL, Nat.reduceAdd, cellsOf, cvOf]) <;> rfl) (.tmp rfl .nil))) (by decide) (fun i hi => absurd hi (Nat.not_lt_zero i)) (fun g' => .tL (.cons (.c rfl) (.cons (.aL (.cons (.c rfl) (.cons (.c rfl) (.cons (.c rfl) (.cons (.c rfl) .nil))))) (.cons (.c rfl) .nil)))) (fun _ => .nil) (fun g' => ⟨.slice none 0 0, .slice none 0 0, [], ⟨0, 0, 0, []⟩, rfl, fun _ => ⟨rfl, rfl⟩, fun e => absurd e h1, rfl⟩)
 rw [if_neg h1]
 have hnc : NCel ca := hnr (celF_0.1 (by omega))
 refine ZZ ?_
 obtain ⟨b, ho⟩ : ∃ b, outB n 0 10 = b := ⟨_, rfl⟩
 rw [ho]
 cases b with
 | true =>
  refine WR ?_
  refine al_ef rfl (ef_call0 false (fun _ => out_v _ _ _) rfl .fn rfl (by decide) (by kernel_rfl) rfl (fun _ => C0 rfl) (by simp)) ?_
  rintro _ _ ⟨_, _, _, ⟨rfl, rfl⟩, hF, hH⟩
  rw [ho] at hF
  (refine NST hF hH ?_; clear hF hH; rintro rfl rfl)
  refine WE ?_
  refine aw_cond_t rfl ?_
  refine WA ?_
  exact aret_of (us := [.c (.r (.slice none 0 0) []), .a [.c (I 0), .c (I 0), .c (I 0), .c (.r (.slice none 0 0) [])], .c (I 1)]) [] (fun _ => .t [.c (.r (.slice none 0 0) []), .a [.c (I 0), .c (I 0), .c (I 0), .c (.r (.slice none 0 0) [])], .c (I 1)]) (fun _ => []) (.tmp rfl (.cella (n := 4) rfl (by kernel_rfl) (Cells.box rfl) (by simp) (by (try simp only [nm, putL, Nat.reduceAdd, cellsOf, cvOf]) <;> rfl) (.tmp rfl .nil))) (by decide) (fun i hi => absurd hi (Nat.not_lt_zero i)) (fun g' => .tL (.cons (.c rfl) (.cons (.aL (.cons (.c rfl) (.cons (.c rfl) (.cons (.c rfl) (.cons (.c rfl) .nil))))) (.cons (.c rfl) .nil)))) (fun _ => .nil) (fun g' => ⟨.slice none 0 0, .slice none 0 0, [], ⟨0, 0, 0, []⟩, rfl, fun _ => ⟨rfl, rfl⟩, fun e => absurd e (by simp), rfl⟩)
 | false =>
  have hn : 0 ≤ n ∧ n ≤ 10 := by simp [outB] at ho; exact ho
  obtain ⟨k, rfl⟩ : ∃ k : Nat, n = k := ⟨n.toNat, by omega⟩
  refine WR ?_
  refine al_ef rfl (ef_call0 false (fun _ => out_v _ _ _) rfl .fn rfl (by decide) (by kernel_rfl) rfl (fun _ => C0 rfl) (by simp)) ?_
  rintro _ _ ⟨_, _, _, ⟨rfl, rfl⟩, hF, hH⟩
  rw [ho] at hF
  (refine NST hF hH ?_; clear hF hH; rintro rfl rfl)
  refine WE ?_
  refine aw_cond_f rfl ?_
  refine ZZ ?_
  refine WR ?_
  refine al_ef rfl (ef_call0 false (fun _ => walls_v va ca hnc k (by omega)) rfl .fn rfl (by decide) (by kernel_rfl) rfl (fun _ => C0 rfl) (by simp)) ?_
  rintro _ _ ⟨_, _, _, ⟨v1, w1, lv, rfl, hlv, rfl⟩, hF, hH⟩
  (refine NST hF hH ?_; clear hF hH; rintro rfl rfl)
  refine WE ?_
  generalize hS : celN ca.st (shrL k (covL ca)) = S at *
  refine ZZ ?_
  refine aw_regionT [(0, none), (1, none), (2, none), (3, some []), (4, none)] hMixed (by kernel_rfl) ?_
  refine WQ ?_
  exact aret_of (us := [.c (.r w1 (cR lv)), .a [.c (I S.st), .c (I S.x), .c (I S.y), .c (.r v1 (tR S.rows))], .c (I 0)]) [] (fun _ => .t [.c (.r w1 (cR lv)), .a [.c (I S.st), .c (I S.x), .c (I S.y), .c (.r v1 (tR S.rows))], .c (I 0)]) (fun _ => []) (.tmp rfl (.cella (n := 4) rfl (by kernel_rfl) (Cells.box rfl) (by simp) (by (try simp only [nm, putL, Nat.reduceAdd, cellsOf, cvOf]) <;> rfl) (.tmp rfl .nil))) (by decide) (fun i hi => absurd hi (Nat.not_lt_zero i)) (fun g' => .tL (.cons (.c rfl) (.cons (.aL (.cons (.c rfl) (.cons (.c rfl) (.cons (.c rfl) (.cons (.c rfl) .nil))))) (.cons (.c rfl) .nil)))) (fun _ => .nil) (fun g' => ⟨v1, w1, lv, S, rfl, fun e => absurd rfl e, fun _ => ⟨hnc, k, rfl, by omega, hlv, hS.symm⟩, rfl⟩)
end Go.Proofs.YtniolldgidgffaaGreatDoor

/- The reference's fault of cells is the program's: plain. -/
namespace Go.Proofs.YtniolldgidgffaaGreatDoor
theorem hit_of {c : Cel} {i k : Nat} {r : List UInt8} (h1 : c.rows[i]? = some r) (h2 : r[k]? = some 35) : ((c.x.tdiv c.st + (k : Nat), c.y.tdiv c.st + (i : Nat)) : Spot) ∈ covL c := hitC_mem.2 ⟨i, k, r, h1, h2, rfl⟩
def spanB (c : Cel) : Bool := decide (covL c ≠ []) && decide (x0 (covL c) = c.x.tdiv c.st) && decide (y0 (covL c) = c.y.tdiv c.st) && decide (x1 (covL c) = c.x.tdiv c.st + (wid c.rows : Int) - 1) && decide (y1 (covL c) = c.y.tdiv c.st + (c.rows.length : Int) - 1)
theorem headD_at {α : Type} {l : List α} {d a : α} (h : l[0]? = some a) : l.headD d = a := by
 cases l with
 | nil => cases h
 | cons b l => simpa using h
theorem lastD_at {α : Type} {l : List α} {d a : α} {n : Nat} (hn : l.length = n + 1) (h : l[n]? = some a) : l.getLastD d = a := by
 have : l ≠ [] := by intro e; rw [e] at hn; cases hn
 rw [List.getLastD_eq_getLast?, List.getLast?_eq_getElem?, hn, Nat.add_sub_cancel, h]; rfl
theorem span_tight {c : Cel} (hr : ∀ r ∈ c.rows, r.length = wid c.rows) (hne : c.rows ≠ []) : spanB c = tightB c.rows := by
 obtain ⟨n, hn⟩ : ∃ n, c.rows.length = n + 1 := ⟨c.rows.length - 1, by have := List.length_pos_iff.2 hne; omega⟩
 obtain ⟨r0, h0⟩ : ∃ r, c.rows[0]? = some r := ⟨_, List.getElem?_eq_getElem (by omega)⟩
 obtain ⟨rn, hrn⟩ : ∃ r, c.rows[n]? = some r := ⟨_, List.getElem?_eq_getElem (by omega)⟩
 have hb : ∀ p ∈ covL c, ∃ (i k : Nat) (r : List UInt8), c.rows[i]? = some r ∧ r[k]? = some 35 ∧ i ≤ n ∧ k < wid c.rows ∧ p.1 = c.x.tdiv c.st + (k : Nat) ∧ p.2 = c.y.tdiv c.st + (i : Nat) := fun p hp => by
  obtain ⟨i, k, r, h1, h2, rfl⟩ := hitC_mem.1 hp
  have e1 := (List.getElem?_eq_some_iff.1 h1).1
  have e2 := (List.getElem?_eq_some_iff.1 h2).1
  rw [hr r (List.mem_of_getElem? h1)] at e2
  exact ⟨i, k, r, h1, h2, by omega, e2, rfl, rfl⟩
 have hT : tightB c.rows = (r0.contains 35 && rn.contains 35 && (c.rows.any fun r => r[0]? == some 35) && (c.rows.any fun r => r[wid c.rows - 1]? == some 35)) := by
  rw [tightB, headD_at h0, lastD_at hn hrn]
 rw [hT]
 by_cases hc : covL c = []
 ·have hno : r0.contains 35 = false := by
   cases e : r0.contains 35 with
   | false => rfl
   | true =>
    obtain ⟨k, hk⟩ := List.getElem?_of_mem (List.contains_iff_mem.1 e)
    have := hit_of h0 hk
    rw [hc] at this; cases this
  rw [hno]
  unfold spanB
  rw [decide_eq_false (by simp [hc])]
  rfl
 obtain ⟨⟨p1, hp1, e1⟩, ⟨p2, hp2, e2⟩, ⟨p3, hp3, e3⟩, ⟨p4, hp4, e4⟩⟩ := x0_at hc
 have k1 : decide (y0 (covL c) = c.y.tdiv c.st) = r0.contains 35 := by
  rw [Bool.eq_iff_iff, decide_eq_true_iff, List.contains_iff_mem]
  obtain ⟨i, k, r, q1, q2, q3, q4, q5, q6⟩ := hb p3 hp3
  constructor
  ·intro e
   obtain rfl : i = 0 := by omega
   rw [h0] at q1
   obtain rfl := Option.some.inj q1
   exact List.mem_of_getElem? q2
  ·intro h
   obtain ⟨k', hk'⟩ := List.getElem?_of_mem h
   have := (x0_le (hit_of h0 hk')).2.2.1
   simp only at this
   omega
 have k2 : decide (y1 (covL c) = c.y.tdiv c.st + (c.rows.length : Int) - 1) = rn.contains 35 := by
  rw [Bool.eq_iff_iff, decide_eq_true_iff, List.contains_iff_mem]
  obtain ⟨i, k, r, q1, q2, q3, q4, q5, q6⟩ := hb p4 hp4
  constructor
  ·intro e
   obtain rfl : i = n := by omega
   rw [hrn] at q1
   obtain rfl := Option.some.inj q1
   exact List.mem_of_getElem? q2
  ·intro h
   obtain ⟨k', hk'⟩ := List.getElem?_of_mem h
   have := (x0_le (hit_of hrn hk')).2.2.2
   simp only at this
   omega
 have k3 : decide (x0 (covL c) = c.x.tdiv c.st) = (c.rows.any fun r => r[0]? == some 35) := by
  rw [Bool.eq_iff_iff, decide_eq_true_iff, List.any_eq_true]
  obtain ⟨i, k, r, q1, q2, q3, q4, q5, q6⟩ := hb p1 hp1
  constructor
  ·intro e
   obtain rfl : k = 0 := by omega
   exact ⟨r, List.mem_of_getElem? q1, by rw [q2]; rfl⟩
  ·rintro ⟨r', hr', h⟩
   obtain ⟨i', hi'⟩ := List.getElem?_of_mem hr'
   have := (x0_le (hit_of hi' (by simpa using h))).1
   simp only at this
   omega
 have k4 : decide (x1 (covL c) = c.x.tdiv c.st + (wid c.rows : Int) - 1) = (c.rows.any fun r => r[wid c.rows - 1]? == some 35) := by
  rw [Bool.eq_iff_iff, decide_eq_true_iff, List.any_eq_true]
  obtain ⟨i, k, r, q1, q2, q3, q4, q5, q6⟩ := hb p2 hp2
  constructor
  ·intro e
   obtain rfl : k = wid c.rows - 1 := by omega
   exact ⟨r, List.mem_of_getElem? q1, by rw [q2]; rfl⟩
  ·rintro ⟨r', hr', h⟩
   obtain ⟨i', hi'⟩ := List.getElem?_of_mem hr'
   have := (x0_le (hit_of hi' (by simpa using h))).2.1
   simp only at this
   omega
 unfold spanB
 rw [decide_eq_true hc, k1, k2, k3, k4, Bool.true_and]
 generalize r0.contains 35 = b1
 generalize rn.contains 35 = b2
 generalize (c.rows.any fun r => r[0]? == some 35) = b3
 generalize (c.rows.any fun r => r[wid c.rows - 1]? == some 35) = b4
 revert b1 b2 b3 b4
 decide
def rowsR (rows : List (List UInt8)) : Int := if 200 < rows.length then 2 else if rowsF (wid rows) rows ≠ 0 then rowsF (wid rows) rows else if rows ≠ [] ∧ 200 < wid rows then 2 else 0
def celR2 (c : Cel) : Int :=
 if stepB c.st = true then 1
 else if c.rows = [] ∧ (c.x ≠ 0 ∨ c.y ≠ 0) then 3
 else if rowsR c.rows ≠ 0 then rowsR c.rows
 else if (farB c.x || farB c.y) = true then 1
 else if c.x.tmod c.st ≠ 0 ∨ c.y.tmod c.st ≠ 0 then 3
 else if c.rows = [] then 0
 else if spanB c = true then 0 else 3
theorem celR2_eq (c : Cel) : celR2 c = celF c := by
 unfold celR2 celF
 by_cases h1 : stepB c.st = true
 ·rw [if_pos h1, if_pos h1]
 rw [if_neg h1, if_neg h1]
 by_cases h2 : c.rows = [] ∧ (c.x ≠ 0 ∨ c.y ≠ 0)
 ·rw [if_pos h2, if_pos h2]
 rw [if_neg h2, if_neg h2]
 by_cases h3 : 200 < c.rows.length
 ·have : rowsR c.rows = 2 := by rw [rowsR, if_pos h3]
  rw [this, if_pos (by decide), if_pos h3]
 rw [if_neg h3]
 by_cases h4 : c.rows = []
 ·have hxy : c.x = 0 ∧ c.y = 0 := by
   refine ⟨?_, ?_⟩
   ·apply Classical.byContradiction; intro e; exact h2 ⟨h4, .inl e⟩
   ·apply Classical.byContradiction; intro e; exact h2 ⟨h4, .inr e⟩
  have : rowsR c.rows = 0 := by rw [h4]; rfl
  rw [this, hxy.1, hxy.2, if_pos h4, if_pos h4, if_neg (by decide), if_neg (by decide), if_neg (by simp)]
 rw [if_neg h4, if_neg h4]
 by_cases h5 : rowsF (wid c.rows) c.rows ≠ 0
 ·have : rowsR c.rows = rowsF (wid c.rows) c.rows := by rw [rowsR, if_neg h3, if_pos h5]
  rw [this, if_pos h5, if_pos h5]
 rw [if_neg h5]
 by_cases h6 : 200 < wid c.rows
 ·have : rowsR c.rows = 2 := by rw [rowsR, if_neg h3, if_neg h5, if_pos ⟨h4, h6⟩]
  rw [this, if_pos (by decide), if_pos h6]
 have : rowsR c.rows = 0 := by rw [rowsR, if_neg h3, if_neg h5, if_neg (fun h => h6 h.2)]
 rw [this, if_neg (by decide), if_neg h6]
 by_cases h7 : (farB c.x || farB c.y) = true
 ·rw [if_pos h7, if_pos h7]
 rw [if_neg h7, if_neg h7, span_tight (fun r hr => (rowsF_0.1 (by simpa using h5) r hr).1) h4]
 by_cases h8 : c.x.tmod c.st ≠ 0 ∨ c.y.tmod c.st ≠ 0
 ·rw [if_pos h8, if_pos (by rcases h8 with h | h <;> first | exact .inl h | exact .inr (.inl h))]
 rw [if_neg h8]
 cases ht : tightB c.rows with
 | true => rw [if_pos rfl, if_neg]; exact (fun h => by rcases h with h | h | h <;> first | exact h8 (.inl h) | exact h8 (.inr h) | simp at h)
 | false => rw [if_neg (by simp), if_pos (.inr (.inr rfl))]
end Go.Proofs.YtniolldgidgffaaGreatDoor
