/- Cells that are the same, fillings that are the same, by value. -/
import Derived.Test.YtgeenfjmhhenfaaGreatDoorQbo
set_option linter.unusedSimpArgs false
set_option linter.unusedVariables false
/- The reference's faults of layers and styles; first, errs, when, by value. -/
-- NEWM
namespace Go.Proofs.YtgeenfjmhhenfaaGreatDoor
open Go Go.RowKit
set_option maxRecDepth 100000
def fstN : List Int → Int
 | [] => 0
 | a :: l => if a = 0 then fstN l else a
theorem fstN_drop {l : List Int} {k : Nat} {n : Int} (h : l[k]? = some n) : fstN (l.drop k) = if n = 0 then fstN (l.drop (k + 1)) else n := by
 obtain ⟨h1, h2⟩ := List.getElem?_eq_some_iff.1 h
 rw [List.drop_eq_getElem_cons h1, h2]; rfl
abbrev nR (l : List Int) : List (List CV) := l.map fun n => [I n]
theorem rfirst_v (l : List Int) (v : Value) (hl : l.length ≤ 1000000) : ACalls Tryz.prog 75 [.c (.r v (nR l))] [] fun u H => u = .c (I (fstN l)) ∧ H = [] := by
 have e1 : (nR l).length = l.length := by simp
 refine acalls_of (N := 15) Tryz.func75 rfl rfl (by simp) fun E hE => ?_
 refine WA ?_
 refine WA ?_
 refine aw_loopw (fun m F H => ∃ (k : Nat), m + k = l.length ∧ fstN (l.drop k) = fstN l ∧ F = [(5, .c (.r v (nR l))), (6, .c (I (nR l).length)), (7, .c (I k))] ∧ H = []) ?_ ?_
 ·refine wk_of [] (fun _ => [(5, .c (.r v (nR l))), (6, .c (I (nR l).length)), (7, .c (I (0 : Nat)))]) (fun _ => _) (by decide) (ZNL hE) ZCF (fun _ => .nil) (fun _ => ?_)
  exact ⟨l.length, 0, by omega, rfl, rfl, rfl⟩
 rintro m F H ⟨k, hk, hf, rfl, rfl⟩
 refine WA ?_
 refine aw_if rfl (fun hlt => ?_) (fun hge => ?_)
 ·obtain ⟨n, hn⟩ : ∃ n, l[k]? = some n := ⟨_, List.getElem?_eq_getElem (by omega)⟩
  have hrow : (nR l)[k]? = some [I n] := by rw [List.getElem?_map, hn]; rfl
  have hd := fstN_drop hn
  refine WA ?_
  refine WA ?_
  refine aw_if rfl (fun hv => ?_) (fun hv => ?_)
  ·refine WA ?_
   exact aret_1 [] _ rfl rfl rfl (by decide) (ZNK rfl) (fun _ => .nil) ⟨by rw [← hf, hd, if_neg hv], rfl⟩
  ·refine WA ?_
   refine wk_of [] (fun _ => [(5, .c (.r v (nR l))), (6, .c (I (nR l).length)), (7, .c (I (k + 1 : Nat)))]) (fun _ => _) (by decide) (ZNL hE) ZCF (fun _ => .nil) (fun _ => ?_)
   exact ⟨m - 1, by omega, k + 1, by omega, by rw [← hf, hd, if_pos (by omega)], rfl, rfl⟩
 refine WA ?_
 exact aret_1 [] _ rfl rfl rfl (by decide) (ZNK rfl) (fun _ => .nil) ⟨by rw [← hf, List.drop_eq_nil_of_le (by omega)]; rfl, rfl⟩
theorem lerrs_v (l : List Int) (v : Value) (hl : l.length ≤ 1000000) : ACalls Tryz.prog 14 [.c (.r v (nR l))] [] fun u H => u = .c (I (fstN l)) ∧ H = [] := by
 have e1 : (nR l).length = l.length := by simp
 refine acalls_of (N := 15) Tryz.func14 rfl rfl (by simp) fun E hE => ?_
 refine WA ?_
 refine WA ?_
 refine aw_loopw (fun m F H => ∃ (k : Nat), m + k = l.length ∧ fstN (l.drop k) = fstN l ∧ F = [(5, .c (.r v (nR l))), (6, .c (I (nR l).length)), (7, .c (I k))] ∧ H = []) ?_ ?_
 ·refine wk_of [] (fun _ => [(5, .c (.r v (nR l))), (6, .c (I (nR l).length)), (7, .c (I (0 : Nat)))]) (fun _ => _) (by decide) (ZNL hE) ZCF (fun _ => .nil) (fun _ => ?_)
  exact ⟨l.length, 0, by omega, rfl, rfl, rfl⟩
 rintro m F H ⟨k, hk, hf, rfl, rfl⟩
 refine WA ?_
 refine aw_if rfl (fun hlt => ?_) (fun hge => ?_)
 ·obtain ⟨n, hn⟩ : ∃ n, l[k]? = some n := ⟨_, List.getElem?_eq_getElem (by omega)⟩
  have hrow : (nR l)[k]? = some [I n] := by rw [List.getElem?_map, hn]; rfl
  have hd := fstN_drop hn
  refine WA ?_
  refine WA ?_
  refine aw_if rfl (fun hv => ?_) (fun hv => ?_)
  ·refine WA ?_
   exact aret_1 [] _ rfl rfl rfl (by decide) (ZNK rfl) (fun _ => .nil) ⟨by rw [← hf, hd, if_neg hv], rfl⟩
  ·refine WA ?_
   refine wk_of [] (fun _ => [(5, .c (.r v (nR l))), (6, .c (I (nR l).length)), (7, .c (I (k + 1 : Nat)))]) (fun _ => _) (by decide) (ZNL hE) ZCF (fun _ => .nil) (fun _ => ?_)
   exact ⟨m - 1, by omega, k + 1, by omega, by rw [← hf, hd, if_pos (by omega)], rfl, rfl⟩
 refine WA ?_
 exact aret_1 [] _ rfl rfl rfl (by decide) (ZNK rfl) (fun _ => .nil) ⟨by rw [← hf, List.drop_eq_nil_of_le (by omega)]; rfl, rfl⟩
theorem lwhen_v (b : Bool) (n : Int) : ACalls Tryz.prog 16 [.c (B b), .c (I n)] [] fun u H => u = .c (I (if b = true then n else 0)) ∧ H = [] := by
 refine acalls_of (N := 7) Tryz.func16 rfl rfl (by simp) fun E hE => ?_
 cases b with
 | true =>
  refine WA ?_
  refine WA ?_
  refine aw_cond_t rfl ?_
  refine WA ?_
  exact aret_1 [] _ rfl rfl rfl (by decide) (ZNK rfl) (fun _ => .nil) ⟨rfl, rfl⟩
 | false =>
  refine WA ?_
  refine WA ?_
  refine aw_cond_f rfl ?_
  refine ZZ ?_
  refine WA ?_
  exact aret_1 [] _ rfl rfl rfl (by decide) (ZNK rfl) (fun _ => .nil) ⟨rfl, rfl⟩
def spnG (n lo hi : Int) : Int := if outB n lo hi = true then 1 else 0
theorem rspan_v (n lo hi : Int) : ACalls Tryz.prog 76 [.c (I n), .c (I lo), .c (I hi)] [] fun u H => u = .c (I (spnG n lo hi)) ∧ H = [] := by
 obtain ⟨b1, h1⟩ : ∃ q, outB n lo hi = q := ⟨_, rfl⟩
 rw [spnG, h1]
 refine acalls_of (N := 12) Tryz.func76 rfl rfl (by simp) fun E hE => ?_
 cases b1 with
 | true =>
  refine WA ?_
  refine WR ?_
  refine al_ef rfl (ef_call0 false (fun _ => rin_v _ _ _) rfl .fn rfl (by decide) (by kernel_rfl) rfl (fun _ => C0 rfl) (by simp)) ?_
  rintro _ _ ⟨_, _, _, ⟨rfl, rfl⟩, hF, hH⟩
  rw [h1] at hF
  (refine NST hF hH ?_; clear hF hH; rintro rfl rfl)
  refine WE ?_
  refine aw_cond_t rfl ?_
  refine WA ?_
  exact aret_1 [] _ rfl rfl rfl (by decide) (ZNK rfl) (fun _ => .nil) ⟨rfl, rfl⟩
 | false =>
  refine WA ?_
  refine WR ?_
  refine al_ef rfl (ef_call0 false (fun _ => rin_v _ _ _) rfl .fn rfl (by decide) (by kernel_rfl) rfl (fun _ => C0 rfl) (by simp)) ?_
  rintro _ _ ⟨_, _, _, ⟨rfl, rfl⟩, hF, hH⟩
  rw [h1] at hF
  (refine NST hF hH ?_; clear hF hH; rintro rfl rfl)
  refine WE ?_
  refine aw_cond_f rfl ?_
  refine ZZ ?_
  refine WA ?_
  exact aret_1 [] _ rfl rfl rfl (by decide) (ZNK rfl) (fun _ => .nil) ⟨rfl, rfl⟩
def shlF (t b : Int) : Int := fstN [spnG t 0 50, spnG b 0 50]
theorem rshell_v (t b : Int) : ACalls Tryz.prog 18 [.c (I t), .c (I b)] [] fun u H => u = .c (I (shlF t b)) ∧ H = [] := by
 refine acalls_of (N := 11) Tryz.func18 rfl rfl (by simp) fun E hE => ?_
 refine WA ?_
 refine WR ?_
 refine al_ef rfl (ef_call0 false (fun _ => rspan_v _ _ _) rfl .fn rfl (by decide) (by kernel_rfl) rfl (fun _ => C0 rfl) (by simp)) ?_
 rintro _ _ ⟨_, _, _, ⟨rfl, rfl⟩, hF, hH⟩
 (refine NST hF hH ?_; clear hF hH; rintro rfl rfl)
 refine WO ?_
 refine al_ef rfl (ef_call0 false (fun _ => rspan_v _ _ _) rfl .fn rfl (by decide) (by kernel_rfl) rfl (fun _ => C0 rfl) (by simp)) ?_
 rintro _ _ ⟨_, _, _, ⟨rfl, rfl⟩, hF, hH⟩
 (refine NST hF hH ?_; clear hF hH; rintro rfl rfl)
 refine WO ?_
 refine al_ef rfl (ef_call0 true (fun g => rfirst_v [spnG t 0 50, spnG b 0 50] (g (.o 0 0 2 2)) (by simp)) rfl .fn rfl (by decide) (by kernel_rfl) rfl (fun _ => .cons (.frz rfl rfl rfl rfl rfl) .nil) (fun _ _ _ _ ⟨hu, hH⟩ => by rw [hu, hH]; exact ⟨.c (.inl trivial), by simp⟩)) ?_
 rintro _ _ ⟨_, _, _, ⟨rfl, rfl⟩, hF, hH⟩
 (refine NST hF hH ?_; clear hF hH; rintro rfl rfl)
 refine WE ?_
 exact aret_1 [] _ rfl rfl rfl (by decide) (ZNK rfl) (fun _ => .nil) ⟨rfl, rfl⟩
theorem sty_eq (w t b e : Int) : fstN [spnG w 0 10, shlF t b, spnG e 1 200] = styF w t b e := by
 unfold shlF spnG styF
 generalize outB w 0 10 = b1
 generalize outB t 0 50 = b2
 generalize outB b 0 50 = b3
 generalize outB e 1 200 = b4
 revert b1 b2 b3 b4
 decide
set_option maxHeartbeats 1000000 in
theorem rstyle_v (w t b e : Int) : ACalls Tryz.prog 19 [.a [.c (I w), .c (I t), .c (I b), .c (I e)]] [] fun u H => u = .c (I (styF w t b e)) ∧ H = [] := by
 rw [← sty_eq]
 refine acalls_of (N := 16) Tryz.func19 rfl rfl (by simp) fun E hE => ?_
 refine WA ?_
 refine ZZ ?_
 refine aw_regionT [(0, none), (1, none), (3, none), (4, none), (5, none), (6, none), (8, none), (9, none), (2, some [3, 4, 5, 6, 8, 9]), (7, some [8, 9]), (10, some []), (11, some []), (12, some []), (13, none)] hMixed (by kernel_rfl) ?_
 refine WP ?_
 refine at_ef rfl rfl (ef_call0 false (fun _ => rspan_v _ _ _) rfl .fn rfl (by decide) (by kernel_rfl) rfl (fun _ => C0 rfl) (by simp)) ?_
 rintro _ _ ⟨_, _, _, ⟨rfl, rfl⟩, hF, hH⟩
 (refine NST hF hH ?_; clear hF hH; rintro rfl rfl)
 refine ⟨ag_cons (by first | exact ag_rd rfl rfl rfl (ZX (KF (t := 34) (f := 1) rfl rfl)) rfl) (ag_cons (by first | exact ag_rd rfl rfl rfl (ZL (KK (t := 3) rfl)) rfl) (ag_cons (by first | exact ag_rd rfl rfl rfl (ZX (KF (t := 34) (f := 2) rfl rfl)) rfl) (ag_cons (by first | exact ag_rd rfl rfl rfl (ZL (KK (t := 3) rfl)) rfl) (ag_cons (by first | exact ag_rd rfl rfl rfl (ZX (KF (t := 34) (f := 3) rfl rfl)) rfl) (ag_cons (by first | exact ag_rd rfl rfl rfl (ZL (KK (t := 3) rfl)) rfl) (ag_none)))))), ?_⟩
 refine at_ef rfl rfl (ef_call0 false (fun _ => rshell_v _ _) rfl .fn rfl (by decide) (by kernel_rfl) rfl (fun _ => C0 rfl) (by simp)) ?_
 rintro _ _ ⟨_, _, _, ⟨rfl, rfl⟩, hF, hH⟩
 (refine NST hF hH ?_; clear hF hH; rintro rfl rfl)
 refine ⟨ag_cons (by first | exact ag_rd rfl rfl rfl (ZX (KF (t := 34) (f := 3) rfl rfl)) rfl) (ag_cons (by first | exact ag_rd rfl rfl rfl (ZL (KK (t := 3) rfl)) rfl) (ag_none)), ?_⟩
 refine at_ef rfl rfl (ef_call0 false (fun _ => rspan_v _ _ _) rfl .fn rfl (by decide) (by kernel_rfl) rfl (fun _ => C0 rfl) (by simp)) ?_
 rintro _ _ ⟨_, _, _, ⟨rfl, rfl⟩, hF, hH⟩
 (refine NST hF hH ?_; clear hF hH; rintro rfl rfl)
 refine ⟨ag_none, ?_⟩
 refine WP ?_
 refine at_ef rfl rfl (ef_call0 true (fun g => rfirst_v [spnG w 0 10, shlF t b, spnG e 1 200] (g (.o 1 0 3 3)) (by simp)) rfl .fn rfl (by decide) (by kernel_rfl) rfl (fun _ => .cons (.frz rfl rfl rfl rfl rfl) .nil) (fun _ _ _ _ ⟨hu, hH⟩ => by rw [hu, hH]; exact ⟨.c (.inl trivial), by simp⟩)) ?_
 rintro _ _ ⟨_, _, _, ⟨rfl, rfl⟩, hF, hH⟩
 (refine NST hF hH ?_; clear hF hH; rintro rfl rfl)
 refine ⟨ag_none, ?_⟩
 refine WQ ?_
 all_goals exact aret_1 [] _ rfl rfl rfl (by decide) (ZNK rfl) (fun _ => .nil) ⟨rfl, rfl⟩
set_option maxHeartbeats 1000000 in
theorem rstack_v (va : Value) (l : List (Value × Cel)) (hsz : ∀ p ∈ l, p.2.rows.length ≤ 1000000000 ∧ ∀ r ∈ p.2.rows, r.length ≤ 1000000000) (hl : l.length ≤ 1000000) : ACalls Tryz.prog 17 [.c (.r va (cR l))] [] fun u H => u = .c (I (layF (l.map Prod.snd))) ∧ H = [] := by
 have e1 : (cR l).length = l.length := by simp
 have hlf : layF (l.map Prod.snd) = if 50 < l.length then 2 else layG (((l.map Prod.snd).map (·.st)).headD 0) (l.map Prod.snd) := by rw [layF, List.length_map]
 refine acalls_of (N := 28) Tryz.func17 rfl rfl (by simp) fun E hE => ?_
 refine WA ?_
 refine WA ?_
 refine aw_if rfl (fun h1 => ?_) (fun h1 => ?_)
 ·refine WA ?_
  exact aret_1 [] _ rfl rfl rfl (by decide) (ZNK rfl) (fun _ => .nil) ⟨congrArg (fun z => AV.c (I z)) (by rw [hlf, if_pos (by omega)]), rfl⟩
 rw [if_neg (by omega)] at hlf
 generalize hst : ((l.map Prod.snd).map (·.st)).headD 0 = st at *
 refine ZZ ?_
 refine WA ?_
 refine aw_loopw (fun m F H => ∃ k : Nat, m + k = l.length ∧ layG st ((l.map Prod.snd).drop k) = layG st (l.map Prod.snd) ∧ F = [(0, .c (.r va (cR l))), (9, .c (.r va (cR l))), (10, .c (I (cR l).length)), (11, .c (I k))] ∧ H = []) ?_ ?_
 ·refine wk_of [] (fun _ => [(0, .c (.r va (cR l))), (9, .c (.r va (cR l))), (10, .c (I (cR l).length)), (11, .c (I (0 : Nat)))]) (fun _ => []) (by decide) (ZNL hE) ZCF (fun _ => .nil) (fun _ => ?_)
  exact ⟨l.length, 0, by omega, rfl, rfl, rfl⟩
 rintro m F H ⟨k, hk, hd, rfl, rfl⟩
 refine WA ?_
 refine aw_if rfl (fun hlt => ?_) (fun hge => ?_)
 ·obtain ⟨⟨va', ca⟩, hz⟩ : ∃ e, l[k]? = some e := ⟨_, List.getElem?_eq_getElem (by omega)⟩
  obtain ⟨⟨v0, c0⟩, hz0⟩ : ∃ e, l[0]? = some e := ⟨_, List.getElem?_eq_getElem (by omega)⟩
  have hrow : (cR l)[k]? = some (celR va' ca) := by rw [List.getElem?_map, hz]; rfl
  have hrow0 : (cR l)[0]? = some (celR v0 c0) := by rw [List.getElem?_map, hz0]; rfl
  have hs0 : st = c0.st := by
   rw [← hst]
   cases l with
   | nil => cases hz0
   | cons a l => injection hz0 with e; rw [e]; rfl
  have hzm : (l.map Prod.snd)[k]? = some ca := by rw [List.getElem?_map, hz]; rfl
  have hdr := layG_drop (st := st) hzm
  obtain ⟨q, hq⟩ : ∃ q, celF ca = q := ⟨_, rfl⟩
  rw [hq] at hdr
  refine WA ?_
  refine WR ?_
  refine al_ef rfl (ef_call0 false (fun _ => rcheck_v va' ca (hsz _ (List.mem_of_getElem? hz)).1 (hsz _ (List.mem_of_getElem? hz)).2) rfl .fn rfl (by decide) (by kernel_rfl) rfl (fun _ => C0 rfl) (by simp)) ?_
  rintro _ _ ⟨_, _, _, ⟨rfl, rfl⟩, hF, hH⟩
  rw [hq] at hF
  (refine NST hF hH ?_; clear hF hH; rintro rfl rfl)
  refine WE ?_
  refine WA ?_
  refine aw_if rfl (fun h2 => ?_) (fun h2 => ?_)
  ·refine WA ?_
   exact aret_1 [] _ rfl rfl rfl (by decide) (ZNK rfl) (fun _ => .nil) ⟨congrArg (fun z => AV.c (I z)) (by rw [hlf, ← hd, hdr, if_pos h2]), rfl⟩
  rw [if_neg h2] at hdr
  refine ZZ ?_
  refine aw_regionT [(0, none), (1, none), (2, none), (3, none), (4, none), (5, none), (6, none)] hMixed (by kernel_rfl) ?_
  refine WQ ?_
  refine aw_if rfl (fun h3 => ?_) (fun h3 => ?_)
  ·refine WA ?_
   exact aret_1 [] _ rfl rfl rfl (by decide) (ZNK rfl) (fun _ => .nil) ⟨congrArg (fun z => AV.c (I z)) (by rw [hlf, ← hd, hdr, if_pos (by rw [hs0]; exact h3)]), rfl⟩
  rw [if_neg (by rw [hs0]; exact h3)] at hdr
  refine ZZ ?_
  refine WA ?_
  refine wk_of [] (fun _ => [(0, .c (.r va (cR l))), (9, .c (.r va (cR l))), (10, .c (I (cR l).length)), (11, .c (I (k + 1 : Nat)))]) (fun _ => []) (by decide) (ZNL hE) ZCF (fun _ => .nil) (fun _ => ?_)
  exact ⟨m - 1, by omega, k + 1, by omega, by rw [← hd, hdr], rfl, rfl⟩
 obtain rfl : k = l.length := by omega
 refine ZZ ?_
 refine WA ?_
 exact aret_1 [] _ rfl rfl rfl (by decide) (ZNK rfl) (fun _ => .nil) ⟨congrArg (fun z => AV.c (I z)) (by rw [hlf, ← hd, List.drop_eq_nil_of_le (by simp)]; rfl), rfl⟩
end Go.Proofs.YtgeenfjmhhenfaaGreatDoor

/- Cells that are the same, fillings that are the same, by value. -/
-- NEWM
namespace Go.Proofs.YtgeenfjmhhenfaaGreatDoor
open Go Go.RowKit
set_option maxRecDepth 100000
theorem rd_neqsqs {P : Program} {N : Nat} {E : Env} {F : Fm} {H : List OB} {o : Oper} {t yt : TypeId} {x y : Operand} {a b : List UInt8} {q : Bool} (h : decide (a ≠ b) = q) (ho : o.op = .binOp .neq t x y yt) (ht : P.underlying t = some .string) (hx : ev F x = some (.c (T a))) (hy : ev F y = some (.c (T b))) : Rd P N E o F H (.c (B q)) := h ▸ rd_neqs ho ht hx hy
theorem eqstr_v (va vb : Value) (rows : List (List UInt8)) (hl : rows.length ≤ 1000000000) : ACalls Tryz.prog 86 [.c (.r va (tR rows)), .c (.r vb (tR rows))] [] fun u H => u = .c (B true) ∧ H = [] := by
 have e1 : (tR rows).length = rows.length := by simp
 refine acalls_of (N := 26) Tryz.func86 rfl rfl (by simp) fun E hE => ?_
 refine WA ?_
 refine WA ?_
 refine aw_cond_f rfl ?_
 refine ZZ ?_
 refine WA ?_
 refine aw_loopw (fun m F H => ∃ k : Nat, m + k = rows.length ∧ F = [(0, .c (.r va (tR rows))), (1, .c (.r vb (tR rows))), (12, .c (I (tR rows).length)), (13, .c (I k))] ∧ H = []) ?_ ?_
 ·refine wk_of [] (fun _ => [(0, .c (.r va (tR rows))), (1, .c (.r vb (tR rows))), (12, .c (I (tR rows).length)), (13, .c (I (0 : Nat)))]) (fun _ => _) (by decide) (ZNL hE) ZCF (fun _ => .nil) (fun _ => ?_)
  exact ⟨rows.length, 0, by omega, rfl, rfl⟩
 rintro m F H ⟨k, hk, rfl, rfl⟩
 refine WA ?_
 refine aw_if rfl (fun hlt => ?_) (fun hge => ?_)
 ·obtain ⟨r, hri⟩ : ∃ r, rows[k]? = some r := ⟨_, List.getElem?_eq_getElem (by omega)⟩
  have hrow : (tR rows)[k]? = some [T r] := by rw [List.getElem?_map, hri]; rfl
  refine WA ?_
  refine ZZ ?_
  refine aw_regionT [(0, none), (1, none), (2, none), (3, none), (4, none), (5, none), (6, none), (7, none), (8, none)] hMixed (by kernel_rfl) ?_
  iterate 8 refine WX2 ?_
  refine ZT rfl (rd_neqsqs (decide_eq_false (fun h => h rfl)) rfl Tryz.underlying9 rfl rfl) ?_
  refine WQ ?_
  refine aw_cond_f rfl ?_
  refine ZZ ?_
  refine WA ?_
  refine wk_of [] (fun _ => [(0, .c (.r va (tR rows))), (1, .c (.r vb (tR rows))), (12, .c (I (tR rows).length)), (13, .c (I (k + 1 : Nat)))]) (fun _ => _) (by decide) (ZNL hE) ZCF (fun _ => .nil) (fun _ => ?_)
  exact ⟨m - 1, by omega, k + 1, by omega, rfl, rfl⟩
 refine ZZ ?_
 refine WA ?_
 exact aret_1 [] _ rfl rfl rfl (by decide) (ZNK rfl) (fun _ => .nil) ⟨rfl, rfl⟩
theorem samec_v (va vb : Value) (c : Cel) (hl : c.rows.length ≤ 1000000000) : ACalls Tryz.prog 24 [celA va c, celA vb c] [] fun u H => u = .c (B true) ∧ H = [] := by
 obtain ⟨st, x, y, rows⟩ := c
 simp only at hl
 have h1 : st = st := rfl
 have h2 : x = x := rfl
 have h3 : y = y := rfl
 refine acalls_of (N := 31) Tryz.func24 rfl rfl (by simp) fun E hE => ?_
 refine WA ?_
 refine WR ?_
 first | refine ZS ?_ | (refine G1 rfl ?_; refine al_ef rfl (ef_call0 false (fun _ => eqstr_v va vb rows hl) rfl .fn rfl (by decide) (by kernel_rfl) rfl (fun _ => C0 rfl) (by simp)) ?_; rintro _ _ ⟨_, _, _, ⟨rfl, rfl⟩, hF, hH⟩; (refine NST hF hH ?_; clear hF hH; rintro rfl rfl)) | skip
 refine WE ?_
 exact aret_1 [] _ rfl rfl rfl (by decide) (ZNK rfl) (fun _ => .nil) ⟨rfl, rfl⟩
abbrev celP (p : Value × Cel) : List CV := celR p.1 p.2
set_option maxHeartbeats 1000000 in
theorem eqfcel_v (fn : FuncId) (hfn : okFn Tryz.prog fn = true) (va vb : Value) (la lb : List (Value × Cel)) (hll : la.length = lb.length) (hl : la.length ≤ 1000000000) (hcall : ∀ (k : Nat) (a b : Value × Cel), la[k]? = some a → lb[k]? = some b → ACalls Tryz.prog fn [.a ((celP a).map .c), .a ((celP b).map .c)] [] fun u H => u = .c (B true) ∧ H = []) : ACalls Tryz.prog 23 [.c (.r va (la.map celP)), .c (.r vb (lb.map celP)), .f (.func fn) []] [] fun u H => u = .c (B true) ∧ H = [] := by
 have e1 : (la.map celP).length = la.length := by simp
 have e2 : (lb.map celP).length = la.length := by simp [hll]
 have hne : ¬ ((la.map celP).length : Int) ≠ ((lb.map celP).length : Int) := by omega
 refine acalls_of (N := 32) Tryz.func23 rfl rfl (by simp) fun E hE => ?_
 refine WA ?_
 refine WA ?_
 refine aw_cond_f rfl ?_
 refine ZZ ?_
 refine WA ?_
 refine aw_loopw (fun m F H => ∃ k : Nat, m + k = la.length ∧ F = [(0, .c (.r va (la.map celP))), (1, .c (.r vb (lb.map celP))), (2, .f (.func fn) []), (15, .c (.r va (la.map celP))), (16, .c (I (la.map celP).length)), (17, .c (I k))] ∧ H = []) ?_ ?_
 ·refine wk_of [] (fun _ => [(0, .c (.r va (la.map celP))), (1, .c (.r vb (lb.map celP))), (2, .f (.func fn) []), (15, .c (.r va (la.map celP))), (16, .c (I (la.map celP).length)), (17, .c (I (0 : Nat)))]) (fun _ => _) (by decide) (ZNL hE) ZCF (fun _ => .nil) (fun _ => ?_)
  exact ⟨la.length, 0, by omega, rfl, rfl⟩
 rintro m F H ⟨k, hk, rfl, rfl⟩
 refine WA ?_
 refine aw_if rfl (fun hlt => ?_) (fun hge => ?_)
 ·obtain ⟨ea, hza⟩ : ∃ e, la[k]? = some e := ⟨_, List.getElem?_eq_getElem (by omega)⟩
  obtain ⟨eb, hzb⟩ : ∃ e, lb[k]? = some e := ⟨_, List.getElem?_eq_getElem (by omega)⟩
  have hrowa : (la.map celP)[k]? = some (celP ea) := by rw [List.getElem?_map, hza]; rfl
  have hrowb : (lb.map celP)[k]? = some (celP eb) := by rw [List.getElem?_map, hzb]; rfl
  refine WA ?_
  refine WA ?_
  refine WR ?_
  refine al_ef rfl (ef_call0 false (fun _ => hcall k _ _ hza hzb) rfl (.clo rfl) rfl (by decide) hfn rfl (fun _ => C0 rfl) (by simp)) ?_
  rintro _ _ ⟨_, _, _, ⟨rfl, rfl⟩, hF, hH⟩
  (refine NST hF hH ?_; clear hF hH; rintro rfl rfl)
  refine WE ?_
  refine aw_cond_f rfl ?_
  refine ZZ ?_
  refine WA ?_
  refine wk_of [] (fun _ => [(0, .c (.r va (la.map celP))), (1, .c (.r vb (lb.map celP))), (2, .f (.func fn) []), (15, .c (.r va (la.map celP))), (16, .c (I (la.map celP).length)), (17, .c (I (k + 1 : Nat)))]) (fun _ => _) (by decide) (ZNL hE) ZCF (fun _ => .nil) (fun _ => ?_)
  exact ⟨m - 1, by omega, k + 1, by omega, rfl, rfl⟩
 refine ZZ ?_
 refine WA ?_
 exact aret_1 [] _ rfl rfl rfl (by decide) (ZNK rfl) (fun _ => .nil) ⟨rfl, rfl⟩
theorem samecs_v (va vb : Value) (la lb : List (Value × Cel)) (h : la.map Prod.snd = lb.map Prod.snd) (hl : la.length ≤ 1000000000) (hr : ∀ p ∈ la, p.2.rows.length ≤ 1000000000) : ACalls Tryz.prog 23 [.c (.r va (cR la)), .c (.r vb (cR lb)), .f (.func 24) []] [] fun u H => u = .c (B true) ∧ H = [] := by
 refine eqfcel_v 24 (by kernel_rfl) va vb la lb (by have := congrArg List.length h; simpa using this) hl fun k a b ha hb => ?_
 have h1 : (la.map Prod.snd)[k]? = some a.2 := by rw [List.getElem?_map, ha]; rfl
 rw [h, List.getElem?_map, hb] at h1
 have h2 : b.2 = a.2 := Option.some.inj h1
 have := samec_v a.1 b.1 a.2 (hr a (List.mem_of_getElem? ha))
 rw [show celA b.1 a.2 = celA b.1 b.2 by rw [h2]] at this
 exact this
structure Fil where
 w : Value
 lv : List (Value × Cel)
 s : Value × Cel
 p : Value × Cel
abbrev filR (f : Fil) : List CV := [.r f.w (cR f.lv), I f.s.2.st, I f.s.2.x, I f.s.2.y, .r f.s.1 (tR f.s.2.rows), I f.p.2.st, I f.p.2.x, I f.p.2.y, .r f.p.1 (tR f.p.2.rows)]
def filC (f : Fil) : List Cel × Cel × Cel := (f.lv.map Prod.snd, f.s.2, f.p.2)
structure FilOk (f : Fil) : Prop where
 n : f.lv.length ≤ 1000000
 r : ∀ p ∈ f.lv, RCel p.2
 s : RCel f.s.2
 p : RCel f.p.2
set_option maxHeartbeats 1000000 in
theorem samef_v (f g : Fil) (h : filC f = filC g) (hf : FilOk f) : ACalls Tryz.prog 26 [.a ((filR f).map .c), .a ((filR g).map .c)] [] fun u H => u = .c (B true) ∧ H = [] := by
 obtain ⟨w, lv, ⟨vs, s⟩, ⟨vp, p⟩⟩ := f
 obtain ⟨w', lv', ⟨vs', s'⟩, ⟨vp', p'⟩⟩ := g
 obtain ⟨h1, h2⟩ := Prod.mk.inj h
 obtain ⟨h3, h4⟩ := Prod.mk.inj h2
 simp only at h1 h3 h4
 subst h3 h4
 have hs := hf.s.h
 have hp := hf.p.h
 have hn := hf.n
 simp only at hs hp hn
 have hw := samecs_v w w' lv lv' h1 (by omega) (fun q hq => by have := (hf.r q hq).h; omega)
 have hs5 : s.rows.length ≤ 1000000000 := by omega
 have hp5 : p.rows.length ≤ 1000000000 := by omega
 refine acalls_of (N := 24) Tryz.func26 rfl rfl (by simp) fun E hE => ?_
 refine WA ?_
 refine WR ?_
 refine al_ef rfl (ef_call0 false (fun _ => hw) rfl .fn rfl (by decide) (by kernel_rfl) rfl (fun _ => C0 rfl) (by simp)) ?_
 rintro _ _ ⟨_, _, _, ⟨rfl, rfl⟩, hF, hH⟩
 (refine NST hF hH ?_; clear hF hH; rintro rfl rfl)
 refine WO ?_
 first | refine ZS ?_ | (refine G1 rfl ?_; refine al_ef rfl (ef_call0 false (fun _ => samec_v _ _ s hs5) rfl .fn rfl (by decide) (by kernel_rfl) rfl (fun _ => C0 rfl) (by simp)) ?_; rintro _ _ ⟨_, _, _, ⟨rfl, rfl⟩, hF, hH⟩; (refine NST hF hH ?_; clear hF hH; rintro rfl rfl)) | skip
 refine WO ?_
 first | refine ZS ?_ | (refine G1 rfl ?_; refine al_ef rfl (ef_call0 false (fun _ => samec_v _ _ p hp5) rfl .fn rfl (by decide) (by kernel_rfl) rfl (fun _ => C0 rfl) (by simp)) ?_; rintro _ _ ⟨_, _, _, ⟨rfl, rfl⟩, hF, hH⟩; (refine NST hF hH ?_; clear hF hH; rintro rfl rfl)) | skip
 refine WE ?_
 exact aret_1 [] _ rfl rfl rfl (by decide) (ZNK rfl) (fun _ => .nil) ⟨rfl, rfl⟩
set_option maxHeartbeats 1000000 in
theorem eqffil_v (fn : FuncId) (hfn : okFn Tryz.prog fn = true) (va vb : Value) (la lb : List (Fil)) (hll : la.length = lb.length) (hl : la.length ≤ 1000000000) (hcall : ∀ (k : Nat) (a b : Fil), la[k]? = some a → lb[k]? = some b → ACalls Tryz.prog fn [.a ((filR a).map .c), .a ((filR b).map .c)] [] fun u H => u = .c (B true) ∧ H = []) : ACalls Tryz.prog 25 [.c (.r va (la.map filR)), .c (.r vb (lb.map filR)), .f (.func fn) []] [] fun u H => u = .c (B true) ∧ H = [] := by
 have e1 : (la.map filR).length = la.length := by simp
 have e2 : (lb.map filR).length = la.length := by simp [hll]
 have hne : ¬ ((la.map filR).length : Int) ≠ ((lb.map filR).length : Int) := by omega
 refine acalls_of (N := 32) Tryz.func25 rfl rfl (by simp) fun E hE => ?_
 refine WA ?_
 refine WA ?_
 refine aw_cond_f rfl ?_
 refine ZZ ?_
 refine WA ?_
 refine aw_loopw (fun m F H => ∃ k : Nat, m + k = la.length ∧ F = [(0, .c (.r va (la.map filR))), (1, .c (.r vb (lb.map filR))), (2, .f (.func fn) []), (15, .c (.r va (la.map filR))), (16, .c (I (la.map filR).length)), (17, .c (I k))] ∧ H = []) ?_ ?_
 ·refine wk_of [] (fun _ => [(0, .c (.r va (la.map filR))), (1, .c (.r vb (lb.map filR))), (2, .f (.func fn) []), (15, .c (.r va (la.map filR))), (16, .c (I (la.map filR).length)), (17, .c (I (0 : Nat)))]) (fun _ => _) (by decide) (ZNL hE) ZCF (fun _ => .nil) (fun _ => ?_)
  exact ⟨la.length, 0, by omega, rfl, rfl⟩
 rintro m F H ⟨k, hk, rfl, rfl⟩
 refine WA ?_
 refine aw_if rfl (fun hlt => ?_) (fun hge => ?_)
 ·obtain ⟨ea, hza⟩ : ∃ e, la[k]? = some e := ⟨_, List.getElem?_eq_getElem (by omega)⟩
  obtain ⟨eb, hzb⟩ : ∃ e, lb[k]? = some e := ⟨_, List.getElem?_eq_getElem (by omega)⟩
  have hrowa : (la.map filR)[k]? = some (filR ea) := by rw [List.getElem?_map, hza]; rfl
  have hrowb : (lb.map filR)[k]? = some (filR eb) := by rw [List.getElem?_map, hzb]; rfl
  refine WA ?_
  refine WA ?_
  refine WR ?_
  refine al_ef rfl (ef_call0 false (fun _ => hcall k _ _ hza hzb) rfl (.clo rfl) rfl (by decide) hfn rfl (fun _ => C0 rfl) (by simp)) ?_
  rintro _ _ ⟨_, _, _, ⟨rfl, rfl⟩, hF, hH⟩
  (refine NST hF hH ?_; clear hF hH; rintro rfl rfl)
  refine WE ?_
  refine aw_cond_f rfl ?_
  refine ZZ ?_
  refine WA ?_
  refine wk_of [] (fun _ => [(0, .c (.r va (la.map filR))), (1, .c (.r vb (lb.map filR))), (2, .f (.func fn) []), (15, .c (.r va (la.map filR))), (16, .c (I (la.map filR).length)), (17, .c (I (k + 1 : Nat)))]) (fun _ => _) (by decide) (ZNL hE) ZCF (fun _ => .nil) (fun _ => ?_)
  exact ⟨m - 1, by omega, k + 1, by omega, rfl, rfl⟩
 refine ZZ ?_
 refine WA ?_
 exact aret_1 [] _ rfl rfl rfl (by decide) (ZNK rfl) (fun _ => .nil) ⟨rfl, rfl⟩
abbrev fR (l : List Fil) : List (List CV) := l.map filR
theorem samefs_v (va vb : Value) (la lb : List Fil) (h : la.map filC = lb.map filC) (hl : la.length ≤ 1000000000) (hr : ∀ p ∈ la, FilOk p) : ACalls Tryz.prog 25 [.c (.r va (fR la)), .c (.r vb (fR lb)), .f (.func 26) []] [] fun u H => u = .c (B true) ∧ H = [] := by
 refine eqffil_v 26 (by kernel_rfl) va vb la lb (by have := congrArg List.length h; simpa using this) hl fun k a b ha hb => ?_
 have h1 : (la.map filC)[k]? = some (filC a) := by rw [List.getElem?_map, ha]; rfl
 rw [h, List.getElem?_map, hb] at h1
 exact samef_v a b (Option.some.inj h1).symm (hr a (List.mem_of_getElem? ha))
end Go.Proofs.YtgeenfjmhhenfaaGreatDoor
