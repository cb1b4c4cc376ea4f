/- A way over a grid, by value: pass. -/
import Derived.Test.YtniolldgidgffaaGreatDoorQbc
set_option linter.unusedSimpArgs false
set_option linter.unusedVariables false
/- A way over a grid, by value: pass. -/
-- NILC
namespace Go.Proofs.YtniolldgidgffaaGreatDoor
open Go Go.RowKit
set_option maxRecDepth 100000
section
variable {P : Program} {N : Nat} {E : Env} {F : Fm} {H : List OB} {o : Oper} {t yt : TypeId} {x y : Operand} {m n z : Int}
theorem rd_quoP (ho : o.op = .binOp .quo t x y yt) (hx : ev F x = some (.c (.s (.int .i64 m)))) (hy : ev F y = some (.c (.s (.int .i64 n)))) (h0 : n ≠ 0) (hz : wrap64 (m.tdiv n) = z) : Rd P N E o F H (.c (.s (.int .i64 z))) := by
 subst hz; exact rd_quo ho hx hy h0
theorem rd_remP (ho : o.op = .binOp .rem t x y yt) (hx : ev F x = some (.c (.s (.int .i64 m)))) (hy : ev F y = some (.c (.s (.int .i64 n)))) (h0 : n ≠ 0) (hz : m.tmod n = z) : Rd P N E o F H (.c (.s (.int .i64 z))) := by
 subst hz; exact rd_rem ho hx hy h0
end
theorem floor_qp (x b : Int) (h2 : 1 ≤ b) : (x.tmod b < 0 → x / b = x.tdiv b - 1) ∧ (0 ≤ x.tmod b → x / b = x.tdiv b) := by
 have hd := Int.mul_tdiv_add_tmod x b
 have h1 : (x.tmod b).natAbs < b.natAbs := by rw [Int.natAbs_tmod]; exact Nat.mod_lt _ (by omega)
 constructor
 ·intro h
  refine ((Int.ediv_emod_unique (a := x) (r := x.tmod b + b) (show 0 < b by omega)).2 ⟨?_, by omega, by omega⟩).1
  rw [Int.mul_sub]; omega
 ·intro h
  refine ((Int.ediv_emod_unique (a := x) (r := x.tmod b) (show 0 < b by omega)).2 ⟨?_, by omega, by omega⟩).1
  omega
theorem pflo_v (x b : Int) (h0 : -9000000000000000000 ≤ x ∧ x ≤ 9000000000000000000) (h2 : 1 ≤ b ∧ b ≤ 9000000000000000000) : ACalls Tryz.prog 211 [.c (I x), .c (I b)] [] fun u H => u = .c (I (x / b)) ∧ H = [] := by
 have hq : (x.tdiv b).natAbs ≤ x.natAbs := Int.natAbs_tdiv_le_natAbs x b
 have e1 : wrap64 (x.tdiv b) = x.tdiv b := IntWalk.wrap64_in _ (by constructor <;> omega)
 obtain ⟨e3, e4⟩ := floor_qp x b h2.1
 refine acalls_of (N := 16) Tryz.func211 rfl rfl (by simp) fun E hE => ?_
 refine WA ?_
 refine ZR ?_
 iterate 2 refine WX1 ?_
 refine ZA (rd_quoP (z := x.tdiv b) rfl rfl rfl (by omega) e1) ?_
 refine WE ?_
 refine ZR ?_
 iterate 2 refine WX1 ?_
 refine ZA (rd_remP (z := x.tmod b) rfl rfl rfl (by omega) rfl) ?_
 refine WE ?_
 refine aw_if rfl (fun hlt => ?_) (fun hge => ?_)
 ·refine WA ?_
  refine WA ?_
  exact aret_1 [] _ rfl rfl rfl (by decide) (ZNK rfl) (fun _ => .nil) ⟨by rw [e3 hlt], rfl⟩
 ·refine ZZ ?_
  refine WA ?_
  exact aret_1 [] _ rfl rfl rfl (by decide) (ZNK rfl) (fun _ => .nil) ⟨by rw [e4 (by omega)], rfl⟩
theorem fl_bd {x st : Int} (h : 1 ≤ st) (hx : -100000000 ≤ x ∧ x ≤ 100000000) : -100000000 ≤ x / st ∧ x / st ≤ 100000000 := by
 have h1 := Int.ediv_mul_le x (b := st) (by omega)
 have h2 := Int.lt_ediv_add_one_mul_self x (b := st) (by omega)
 constructor
 ·rcases Int.lt_or_le (x / st) (-100000000) with h3 | h3
  ·have h4 : (x / st + 1) * st ≤ -100000000 * st := Int.mul_le_mul_of_nonneg_right (by omega) (by omega)
   have h5 : -100000000 * st ≤ -100000000 := by omega
   omega
  ·exact h3
 ·rcases Int.lt_or_le 100000000 (x / st) with h3 | h3
  ·have h4 : 100000001 * st ≤ x / st * st := Int.mul_le_mul_of_nonneg_right (by omega) (by omega)
   omega
  ·exact h3
theorem pass2_v (g : Grd) (pv v p4 p8 : Value) (hs : 1 ≤ g.st ∧ g.st ≤ 10000) (x : Int) (hx : -100000000 ≤ x ∧ x ≤ 100000000) : ACalls Tryz.prog 212 [.c (I x), .c (.p p4 [.p pv (gRow g v)]), .c (.p p8 [I (g.st / 2)])] [] fun u H => u = .c (B (decide (x / g.st * g.st + g.st / 2 = x))) ∧ H = [] := by
 obtain ⟨b1, b2⟩ := fl_bd hs.1 hx
 have b3 : -1000000000000 ≤ x / g.st * g.st ∧ x / g.st * g.st ≤ 1000000000000 := by
  have h : (x / g.st * g.st).natAbs ≤ 100000000 * 10000 := by rw [Int.natAbs_mul]; exact Nat.mul_le_mul (by omega) (by omega)
  omega
 have b4 : 0 ≤ g.st / 2 ∧ g.st / 2 ≤ 5000 := by omega
 refine acalls_of (N := 20) Tryz.func212 rfl rfl (by simp) fun E hE => ?_
 refine WA ?_
 refine ZZ ?_
 refine aw_regionT [(0, none), (1, none), (2, none), (3, none), (4, none), (6, none), (7, none), (8, none), (9, none), (11, none), (13, none), (5, some [6, 7, 8, 9, 11, 13]), (10, none), (12, none), (14, none), (15, none)] hMixed (by kernel_rfl) ?_
 refine WX2 ?_
 refine ZT rfl (rd_ldcp rfl (by kernel_rfl) rfl rfl) ?_
 iterate 3 refine WX2 ?_
 refine ZT rfl (rd_ldcp rfl (by kernel_rfl) rfl rfl) ?_
 iterate 3 refine WX2 ?_
 refine ZT rfl (rd_ldcp rfl (by kernel_rfl) rfl rfl) ?_
 refine WP ?_
 refine at_ef rfl rfl (ef_call0 false (fun _ => pflo_v x g.st (by omega) (by omega)) rfl .fn rfl (by decide) (by kernel_rfl) rfl (fun _ => C0 rfl) (by simp)) ?_
 rintro _ _ ⟨_, _, _, ⟨rfl, rfl⟩, hF, hH⟩
 (refine NST hF hH ?_; clear hF hH; rintro rfl rfl)
 refine ⟨ag_cons (by first | exact ag_rd rfl rfl rfl (rd_ldcp rfl (by kernel_rfl) rfl rfl) rfl) (ag_cons (by first | exact ag_rd rfl rfl rfl (rd_nil rfl rfl) rfl | exact ag_rd rfl rfl rfl (rd_nilq rfl rfl) rfl | exact ag_rd rfl rfl rfl (rd_nilcp rfl rfl) rfl) (ag_cons (by first | exact ag_rd rfl rfl rfl (ZX (KF (t := 173) (f := 0) rfl rfl)) rfl) (ag_cons (by first | exact ag_rd rfl rfl rfl (ZL (KK (t := 3) rfl)) rfl) (ag_cons (by first | exact ag_rd rfl rfl rfl (rd_ldcp rfl (by kernel_rfl) rfl rfl) rfl) (ag_cons (by first | exact ag_rd rfl rfl rfl (rd_move rfl rfl) rfl) (ag_none)))))), ?_⟩
 refine WQ ?_
 exact aret_1 [] _ rfl rfl rfl (by decide) (ZNK rfl) (fun _ => .nil) ⟨rfl, rfl⟩
theorem pass1_v (g : Grd) (pv v p4 : Value) (hg : GOk g) (hs : 1 ≤ g.st ∧ g.st ≤ 10000) (on : List Bool) (ho : on.length = g.w * g.h) (x y : Int) (hx : -100000000 ≤ x ∧ x ≤ 100000000) (hy : -100000000 ≤ y ∧ y ≤ 100000000) : ACallsX true Tryz.prog 210 [.c (I x), .c (I y), .c (.p p4 [.p pv (gRow g v)]), .p 2 0 0] [gB g.st g.x g.y g.w g.h 1 (g.w * g.h), gArr (g.w * g.h) on, .box [.p 0 0 0]] fun u H => u = .t [] ∧ H = [gB g.st g.x g.y g.w g.h 1 (g.w * g.h), gArr (g.w * g.h) (setQ g on (x / g.st, y / g.st)), .box [.p 0 0 0]] := by
 obtain ⟨b1, b2⟩ := fl_bd hs.1 hx
 obtain ⟨b3, b4⟩ := fl_bd hs.1 hy
 have hnb : g.w * g.h ≤ 1000000 := by have := hg.n; rw [hg.len] at this; exact this
 refine acallsx_of true (N := 28) Tryz.func210 rfl rfl (by simp) fun E hE hP => ?_
 refine ZZ ?_
 refine aw_regionT [(0, none), (1, none), (2, none), (3, none), (4, none), (6, none), (7, none), (8, none), (9, none), (10, none), (5, some [6, 7, 8, 9, 10]), (11, some []), (12, none), (13, none)] hMixed (by kernel_rfl) ?_
 refine WX2 ?_
 refine ZT rfl (rd_ldcp rfl (by kernel_rfl) rfl rfl) ?_
 iterate 4 refine WX2 ?_
 refine ZT rfl (rd_ldcp rfl (by kernel_rfl) rfl rfl) ?_
 refine WP ?_
 refine at_ef rfl rfl (ef_call0 false (fun _ => pflo_v x g.st (by omega) (by omega)) rfl .fn rfl (by decide) (by kernel_rfl) rfl (fun _ => C0 rfl) (by simp)) ?_
 rintro _ _ ⟨_, _, _, ⟨rfl, rfl⟩, hF, hH⟩
 (refine NST hF hH ?_; clear hF hH; rintro rfl rfl)
 refine ⟨ag_cons (by first | exact ag_rd rfl rfl rfl (rd_move rfl rfl) rfl) (ag_cons (by first | exact ag_rd rfl rfl rfl (rd_ldcp rfl (by kernel_rfl) rfl rfl) rfl) (ag_cons (by first | exact ag_rd rfl rfl rfl (rd_nil rfl rfl) rfl | exact ag_rd rfl rfl rfl (rd_nilq rfl rfl) rfl | exact ag_rd rfl rfl rfl (rd_nilcp rfl rfl) rfl) (ag_cons (by first | exact ag_rd rfl rfl rfl (ZX (KF (t := 173) (f := 0) rfl rfl)) rfl) (ag_cons (by first | exact ag_rd rfl rfl rfl (ZL (KK (t := 3) rfl)) rfl) (ag_none))))), ?_⟩
 refine at_ef rfl rfl (ef_call0 false (fun _ => pflo_v y g.st (by omega) (by omega)) rfl .fn rfl (by decide) (by kernel_rfl) rfl (fun _ => C0 rfl) (by simp)) ?_
 rintro _ _ ⟨_, _, _, ⟨rfl, rfl⟩, hF, hH⟩
 (refine NST hF hH ?_; clear hF hH; rintro rfl rfl)
 refine ⟨ag_none, ?_⟩
 refine WQ ?_
 by_cases hm : (x / g.st, y / g.st) ∈ covG g
 ·have hsq : setQ g on (x / g.st, y / g.st) = on.set (ixG g.x g.y g.w (x / g.st, y / g.st)) true := by unfold setQ; rw [if_pos hm]
  have hdc : decide ((x / g.st, y / g.st) ∈ covG g) = true := decide_eq_true hm
  obtain ⟨i1, i2, _⟩ := ix_box (covG_box hg.len hm)
  rw [hsq]
  refine ZR ?_
  refine ZA (rd_ldcp rfl (by kernel_rfl) rfl rfl) ?_
  refine WO ?_
  refine al_ef rfl (ef_call0 false (fun _ => at_v g pv v (x / g.st) (y / g.st) hg (by omega) (by omega)) rfl .fn rfl (by decide) (by kernel_rfl) rfl (fun _ => C0 rfl) (by simp)) ?_
  rintro _ _ ⟨_, _, _, ⟨rfl, rfl⟩, hF, hH⟩
  rw [atG_eq hg.len, hdc] at hF
  (refine NST hF hH ?_; clear hF hH; rintro rfl rfl)
  refine WE ?_
  refine aw_cond_t rfl ?_
  refine WR ?_
  refine al_ef rfl (ef_callp [0, 1] (fun _ => [gB g.st g.x g.y g.w g.h 1 (g.w * g.h), gArr (g.w * g.h) on]) false (fun _ => set_v g.st g.x g.y g.w g.h on (g.w * g.h) (x / g.st) (y / g.st) (ixG g.x g.y g.w (x / g.st, y / g.st)) ho i1 i2 hnb (by omega) (by omega) hg.x hg.y) rfl .fn rfl (by decide) (by kernel_rfl) rfl (fun _ => .cons (.p rfl) (.cons (.c rfl) (.cons (.c rfl) .nil))) (by decide) ZCH (by simp)) ?_
  rintro F1 H1 ⟨_, _, _, _, ⟨rfl, rfl⟩, hF, hH⟩
  rw [killF_nil] at hF; (refine NSU hF hH ?_; clear hF hH; rintro rfl rfl)
  refine WE ?_
  exact aret_0 [some 0, some 1, some 2] (fun _ => [gB g.st g.x g.y g.w g.h 1 (g.w * g.h), gArr (g.w * g.h) (on.set (ixG g.x g.y g.w (x / g.st, y / g.st)) true), .box [.p 0 0 0]]) (.inr rfl) rfl (by decide) (ZNK rfl) ZCH (fun _ => ⟨rfl, rfl⟩)
 ·have hsq : setQ g on (x / g.st, y / g.st) = on := by unfold setQ; rw [if_neg hm]
  have hdc : decide ((x / g.st, y / g.st) ∈ covG g) = false := decide_eq_false hm
  rw [hsq]
  refine ZR ?_
  refine ZA (rd_ldcp rfl (by kernel_rfl) rfl rfl) ?_
  refine WO ?_
  refine al_ef rfl (ef_call0 false (fun _ => at_v g pv v (x / g.st) (y / g.st) hg (by omega) (by omega)) rfl .fn rfl (by decide) (by kernel_rfl) rfl (fun _ => C0 rfl) (by simp)) ?_
  rintro _ _ ⟨_, _, _, ⟨rfl, rfl⟩, hF, hH⟩
  rw [atG_eq hg.len, hdc] at hF
  (refine NST hF hH ?_; clear hF hH; rintro rfl rfl)
  refine WE ?_
  refine aw_cond_f rfl ?_
  refine ZZ ?_
  exact aret_0 [some 0, some 1, some 2] (fun _ => [gB g.st g.x g.y g.w g.h 1 (g.w * g.h), gArr (g.w * g.h) on, .box [.p 0 0 0]]) (.inr rfl) rfl (by decide) (ZNK rfl) ZCH (fun _ => ⟨rfl, rfl⟩)
end Go.Proofs.YtniolldgidgffaaGreatDoor
