/- A way over a grid, by value: pass. -/
import Derived.Test.YtfilfijammemfaaGreatDoorQay
set_option linter.unusedSimpArgs false
set_option linter.unusedVariables false
namespace Go.Proofs.YtfilfijammemfaaGreatDoor
def ctrS (st : Int) (q : Spot) : Spot := (q.1 * st + st / 2, q.2 * st + st / 2)
def onS (a b p : Spot) : Prop := (b.1 - a.1) * (p.2 - a.2) = (b.2 - a.2) * (p.1 - a.1) ∧ (min a.1 b.1 ≤ p.1 ∧ p.1 ≤ max a.1 b.1) ∧ (min a.2 b.2 ≤ p.2 ∧ p.2 ≤ max a.2 b.2)
theorem onS_h {a b p : Spot} (h : a.2 = b.2) : onS a b p ↔ a.2 = p.2 ∧ min a.1 b.1 ≤ p.1 ∧ p.1 ≤ max a.1 b.1 := by
 unfold onS
 constructor
 ·rintro ⟨_, h2, h3⟩; exact ⟨by omega, h2⟩
 ·rintro ⟨h1, h2⟩
  exact ⟨by rw [show p.2 - a.2 = 0 by omega, show b.2 - a.2 = 0 by omega]; simp, h2, by omega⟩
theorem bet_pos {t d e n : Int} (hn : 0 < n) (ht : 0 ≤ t ∧ t ≤ n) (h : n * d = t * e) : min 0 e ≤ d ∧ d ≤ max 0 e := by
 by_cases he : 0 ≤ e
 ·have h1 : 0 ≤ t * e := Int.mul_nonneg ht.1 he
  have h2 : t * e ≤ n * e := Int.mul_le_mul_of_nonneg_right ht.2 he
  have h3 : 0 ≤ d := Int.le_of_mul_le_mul_left (a := n) (by rw [h]; simpa using h1) hn
  have h4 : d ≤ e := Int.le_of_mul_le_mul_left (a := n) (by rw [h]; exact h2) hn
  omega
 ·have h1 : t * e ≤ 0 := Int.mul_nonpos_of_nonneg_of_nonpos ht.1 (by omega)
  have h2 : n * e ≤ t * e := Int.mul_le_mul_of_nonpos_right ht.2 (by omega)
  have h3 : d ≤ 0 := Int.le_of_mul_le_mul_left (a := n) (by rw [h]; simpa using h1) hn
  have h4 : e ≤ d := Int.le_of_mul_le_mul_left (a := n) (by rw [h]; exact h2) hn
  omega
theorem bet_any {t d e n : Int} (hn : n ≠ 0) (ht : min 0 n ≤ t ∧ t ≤ max 0 n) (h : n * d = t * e) : min 0 e ≤ d ∧ d ≤ max 0 e := by
 by_cases h0 : 0 < n
 ·exact bet_pos h0 (by omega) h
 ·exact bet_pos (t := -t) (n := -n) (by omega) (by omega) (by rw [Int.neg_mul, Int.neg_mul, h])
theorem onS_v {a b p : Spot} (h : a.2 ≠ b.2) : onS a b p ↔ (min a.2 b.2 ≤ p.2 ∧ p.2 ≤ max a.2 b.2) ∧ ((p.2 - a.2) * (b.1 - a.1)).tmod (b.2 - a.2) = 0 ∧ a.1 + ((p.2 - a.2) * (b.1 - a.1)).tdiv (b.2 - a.2) = p.1 := by
 have hd : b.2 - a.2 ≠ 0 := by omega
 unfold onS
 constructor
 ·rintro ⟨h1, h2, h3⟩
  have e : (p.2 - a.2) * (b.1 - a.1) = (b.2 - a.2) * (p.1 - a.1) := by rw [Int.mul_comm, h1]
  rw [e]
  refine ⟨h3, Int.mul_tmod_right _ _, ?_⟩
  rw [Int.mul_tdiv_cancel_left _ hd]; omega
 ·rintro ⟨h1, h2, h3⟩
  have e := Int.mul_tdiv_add_tmod ((p.2 - a.2) * (b.1 - a.1)) (b.2 - a.2)
  rw [h2, Int.add_zero] at e
  have hb := bet_any hd (t := p.2 - a.2) (by omega) e
  refine ⟨?_, by omega, h1⟩
  rw [← h3, show a.1 + ((p.2 - a.2) * (b.1 - a.1)).tdiv (b.2 - a.2) - a.1 = ((p.2 - a.2) * (b.1 - a.1)).tdiv (b.2 - a.2) by omega, e, Int.mul_comm]
theorem ctr_div {st m : Int} (h : 1 ≤ st) : (m * st + st / 2) / st = m := by
 have h2 : 0 ≤ st / 2 ∧ st / 2 < st := by omega
 rw [Int.add_comm, Int.add_mul_ediv_right _ _ (by omega), Int.ediv_eq_zero_of_lt h2.1 h2.2]
 omega
theorem tdiv_le {t e n : Int} (hn : n ≠ 0) (ht : t.natAbs ≤ n.natAbs) : ((t * e).tdiv n).natAbs ≤ e.natAbs := by
 rw [Int.natAbs_tdiv, Int.natAbs_mul]
 refine Nat.div_le_of_le_mul ?_
 exact Nat.mul_le_mul_right _ ht
def setQ (g : Grd) (on : List Bool) (q : Spot) : List Bool := if q ∈ covG g then on.set (ixG g.x g.y g.w q) true else on
theorem covG_box {g : Grd} (hl : g.on.length = g.w * g.h) {p : Spot} (hp : p ∈ covG g) : inBox g.x g.y g.w g.h p := by
 have h := (atG_iff hl (a := p.1) (b := p.2)).2 hp
 unfold atG at h
 simp only [Bool.and_eq_true, decide_eq_true_iff] at h
 unfold inBox
 omega
theorem setQ_len {g : Grd} {on : List Bool} {q : Spot} : (setQ g on q).length = on.length := by
 unfold setQ
 split
 ·rw [List.length_set]
 ·rfl
theorem setQ_cov {g : Grd} (hl : g.on.length = g.w * g.h) {on : List Bool} (ho : on.length = g.w * g.h) {q p : Spot} : p ∈ covG { g with on := setQ g on q } ↔ p ∈ covG { g with on := on } ∨ (p = q ∧ q ∈ covG g) := by
 unfold setQ
 split
 ·rename_i h
  have hb := covG_box hl h
  have := set_cov (g := { g with on := on }) (i := ixG g.x g.y g.w q) (by simp only; rw [ho]; exact (ix_box hb).2.1) (q := p)
  simp only at this
  rw [this]
  rw [show spt { g with on := on } (ixG g.x g.y g.w q) = q from spt_ixG (g := { g with on := on }) hb]
  simp [h]
 ·rename_i h
  simp [h]
def InvH (g : Grd) (on : List Bool) (a b : Spot) (k : Nat) (on1 : List Bool) : Prop := ∀ q, q ∈ covG { g with on := on1 } ↔ q ∈ covG { g with on := on } ∨ (q ∈ covG g ∧ onS a b (ctrS g.st q) ∧ q.1 < g.x + k)
def InvV (g : Grd) (on : List Bool) (a b : Spot) (k : Nat) (on1 : List Bool) : Prop := ∀ q, q ∈ covG { g with on := on1 } ↔ q ∈ covG { g with on := on } ∨ (q ∈ covG g ∧ onS a b (ctrS g.st q) ∧ q.2 < g.y + k)
theorem invH_0 {g : Grd} (hl : g.on.length = g.w * g.h) {on : List Bool} {a b : Spot} : InvH g on a b 0 on := fun q => ⟨.inl, fun h => h.elim id fun h => by
 have := covG_box hl h.1
 unfold inBox at this
 omega⟩
theorem invV_0 {g : Grd} (hl : g.on.length = g.w * g.h) {on : List Bool} {a b : Spot} : InvV g on a b 0 on := fun q => ⟨.inl, fun h => h.elim id fun h => by
 have := covG_box hl h.1
 unfold inBox at this
 omega⟩
theorem invH_n {g : Grd} (hl : g.on.length = g.w * g.h) {on on1 : List Bool} {a b : Spot} (h : InvH g on a b g.w on1) (q : Spot) : q ∈ covG { g with on := on1 } ↔ q ∈ covG { g with on := on } ∨ (q ∈ covG g ∧ onS a b (ctrS g.st q)) := by
 rw [h q]
 constructor
 ·exact fun h => h.imp id fun h => ⟨h.1, h.2.1⟩
 ·refine fun h => h.imp id fun h => ⟨h.1, h.2, ?_⟩
  have := covG_box hl h.1
  unfold inBox at this
  omega
theorem invV_n {g : Grd} (hl : g.on.length = g.w * g.h) {on on1 : List Bool} {a b : Spot} (h : InvV g on a b g.h on1) (q : Spot) : q ∈ covG { g with on := on1 } ↔ q ∈ covG { g with on := on } ∨ (q ∈ covG g ∧ onS a b (ctrS g.st q)) := by
 rw [h q]
 constructor
 ·exact fun h => h.imp id fun h => ⟨h.1, h.2.1⟩
 ·refine fun h => h.imp id fun h => ⟨h.1, h.2, ?_⟩
  have := covG_box hl h.1
  unfold inBox at this
  omega
theorem invH_no {g : Grd} {on on1 : List Bool} {a b : Spot} {k : Nat} (h : InvH g on a b k on1) (hn : ∀ q, q ∈ covG g → q.1 = g.x + k → ¬ onS a b (ctrS g.st q)) : InvH g on a b (k + 1) on1 := fun q => by
 rw [h q]
 constructor
 ·exact fun h => h.imp id fun h => ⟨h.1, h.2.1, by have := h.2.2; omega⟩
 ·refine fun h => h.imp id fun h => ⟨h.1, h.2.1, ?_⟩
  by_cases e : q.1 = g.x + k
  ·exact absurd h.2.1 (hn q h.1 e)
  ·have := h.2.2; omega
theorem invV_no {g : Grd} {on on1 : List Bool} {a b : Spot} {k : Nat} (h : InvV g on a b k on1) (hn : ∀ q, q ∈ covG g → q.2 = g.y + k → ¬ onS a b (ctrS g.st q)) : InvV g on a b (k + 1) on1 := fun q => by
 rw [h q]
 constructor
 ·exact fun h => h.imp id fun h => ⟨h.1, h.2.1, by have := h.2.2; omega⟩
 ·refine fun h => h.imp id fun h => ⟨h.1, h.2.1, ?_⟩
  by_cases e : q.2 = g.y + k
  ·exact absurd h.2.1 (hn q h.1 e)
  ·have := h.2.2; omega
theorem invH_yes {g : Grd} (hl : g.on.length = g.w * g.h) {on on1 : List Bool} (ho : on1.length = g.w * g.h) {a b : Spot} {k : Nat} {p : Spot} (h : InvH g on a b k on1) (hp : p.1 = g.x + k) (hs : ∀ q, q ∈ covG g → q.1 = g.x + k → (onS a b (ctrS g.st q) ↔ q = p)) : InvH g on a b (k + 1) (setQ g on1 p) := fun q => by
 rw [setQ_cov hl ho, h q]
 constructor
 ·rintro ((h | h) | h)
  ·exact .inl h
  ·exact .inr ⟨h.1, h.2.1, by have := h.2.2; omega⟩
  ·obtain ⟨rfl, h⟩ := h
   exact .inr ⟨h, (hs q h hp).2 rfl, by omega⟩
 ·rintro (h | ⟨h1, h2, h3⟩)
  ·exact .inl (.inl h)
  ·by_cases e : q.1 = g.x + k
   ·have := (hs q h1 e).1 h2
    subst this
    exact .inr ⟨rfl, h1⟩
   ·exact .inl (.inr ⟨h1, h2, by omega⟩)
theorem invV_yes {g : Grd} (hl : g.on.length = g.w * g.h) {on on1 : List Bool} (ho : on1.length = g.w * g.h) {a b : Spot} {k : Nat} {p : Spot} (h : InvV g on a b k on1) (hp : p.2 = g.y + k) (hs : ∀ q, q ∈ covG g → q.2 = g.y + k → (onS a b (ctrS g.st q) ↔ q = p)) : InvV g on a b (k + 1) (setQ g on1 p) := fun q => by
 rw [setQ_cov hl ho, h q]
 constructor
 ·rintro ((h | h) | h)
  ·exact .inl h
  ·exact .inr ⟨h.1, h.2.1, by have := h.2.2; omega⟩
  ·obtain ⟨rfl, h⟩ := h
   exact .inr ⟨h, (hs q h hp).2 rfl, by omega⟩
 ·rintro (h | ⟨h1, h2, h3⟩)
  ·exact .inl (.inl h)
  ·by_cases e : q.2 = g.y + k
   ·have := (hs q h1 e).1 h2
    subst this
    exact .inr ⟨rfl, h1⟩
   ·exact .inl (.inr ⟨h1, h2, by omega⟩)
theorem stepH {st : Int} (hst : 1 ≤ st) {a b q : Spot} {m : Int} (hh : a.2 = b.2) (hc : a.2 / st * st + st / 2 = a.2) (hq : q.1 = m) : onS a b (ctrS st q) ↔ q = (m, a.2 / st) ∧ min a.1 b.1 ≤ m * st + st / 2 ∧ m * st + st / 2 ≤ max a.1 b.1 := by
 rw [onS_h hh]
 unfold ctrS
 simp only
 rw [hq]
 constructor
 ·rintro ⟨h1, h2⟩
  refine ⟨?_, h2⟩
  ext
  ·exact hq
  ·rw [h1, ctr_div hst]
 ·rintro ⟨h1, h2⟩
  refine ⟨?_, h2⟩
  rw [h1]
  exact hc.symm
theorem stepV {st : Int} (hst : 1 ≤ st) {a b q : Spot} {m y : Int} (hh : a.2 ≠ b.2) (hy : m * st + st / 2 = y) (hq : q.2 = m) : onS a b (ctrS st q) ↔ (min a.2 b.2 ≤ y ∧ y ≤ max a.2 b.2) ∧ ((y - a.2) * (b.1 - a.1)).tmod (b.2 - a.2) = 0 ∧ (a.1 + ((y - a.2) * (b.1 - a.1)).tdiv (b.2 - a.2)) / st * st + st / 2 = a.1 + ((y - a.2) * (b.1 - a.1)).tdiv (b.2 - a.2) ∧ q = ((a.1 + ((y - a.2) * (b.1 - a.1)).tdiv (b.2 - a.2)) / st, m) := by
 rw [onS_v hh]
 unfold ctrS
 simp only
 rw [hq, hy]
 generalize a.1 + ((y - a.2) * (b.1 - a.1)).tdiv (b.2 - a.2) = px
 constructor
 ·rintro ⟨h1, h2, h3⟩
  refine ⟨h1, h2, ?_, ?_⟩
  ·rw [h3, ctr_div hst]
  ·ext
   ·rw [h3, ctr_div hst]
   ·exact hq
 ·rintro ⟨h1, h2, h3, h4⟩
  refine ⟨h1, h2, ?_⟩
  rw [h4]
  exact h3.symm
end Go.Proofs.YtfilfijammemfaaGreatDoor
-- NILC
namespace Go.Proofs.YtfilfijammemfaaGreatDoor
open Go Go.RowKit
set_option maxRecDepth 100000
section
variable {P : Program} {N : Nat} {E : Env} {F : Fm} {H : List OB} {o : Oper} {t yt : TypeId} {x y : Operand} {m n z : Int}
theorem rd_quoP (ho : o.op = .binOp .quo t x y yt) (hx : ev F x = some (.c (.s (.int .i64 m)))) (hy : ev F y = some (.c (.s (.int .i64 n)))) (h0 : n ≠ 0) (hz : wrap64 (m.tdiv n) = z) : Rd P N E o F H (.c (.s (.int .i64 z))) := by
 subst hz; exact rd_quo ho hx hy h0
theorem rd_remP (ho : o.op = .binOp .rem t x y yt) (hx : ev F x = some (.c (.s (.int .i64 m)))) (hy : ev F y = some (.c (.s (.int .i64 n)))) (h0 : n ≠ 0) (hz : m.tmod n = z) : Rd P N E o F H (.c (.s (.int .i64 z))) := by
 subst hz; exact rd_rem ho hx hy h0
end
theorem floor_qp (x b : Int) (h2 : 1 ≤ b) : (x.tmod b < 0 → x / b = x.tdiv b - 1) ∧ (0 ≤ x.tmod b → x / b = x.tdiv b) := by
 have hd := Int.mul_tdiv_add_tmod x b
 have h1 : (x.tmod b).natAbs < b.natAbs := by rw [Int.natAbs_tmod]; exact Nat.mod_lt _ (by omega)
 constructor
 ·intro h
  refine ((Int.ediv_emod_unique (a := x) (r := x.tmod b + b) (show 0 < b by omega)).2 ⟨?_, by omega, by omega⟩).1
  rw [Int.mul_sub]; omega
 ·intro h
  refine ((Int.ediv_emod_unique (a := x) (r := x.tmod b) (show 0 < b by omega)).2 ⟨?_, by omega, by omega⟩).1
  omega
theorem pflo_v (x b : Int) (h0 : -9000000000000000000 ≤ x ∧ x ≤ 9000000000000000000) (h2 : 1 ≤ b ∧ b ≤ 9000000000000000000) : ACalls Tryz.prog 160 [.c (I x), .c (I b)] [] fun u H => u = .c (I (x / b)) ∧ H = [] := by
 have hq : (x.tdiv b).natAbs ≤ x.natAbs := Int.natAbs_tdiv_le_natAbs x b
 have e1 : wrap64 (x.tdiv b) = x.tdiv b := IntWalk.wrap64_in _ (by constructor <;> omega)
 obtain ⟨e3, e4⟩ := floor_qp x b h2.1
 refine ze (N := 16) Tryz.func160 rfl rfl (by simp) fun E hE => ?_
 refine WA ?_
 refine ZR ?_
 iterate 2 refine WX1 ?_
 refine ZA (rd_quoP (z := x.tdiv b) rfl rfl rfl (by omega) e1) ?_
 refine WE ?_
 refine ZR ?_
 iterate 2 refine WX1 ?_
 refine ZA (rd_remP (z := x.tmod b) rfl rfl rfl (by omega) rfl) ?_
 refine WE ?_
 refine zl rfl (fun hlt => ?_) (fun hge => ?_)
 ·refine WA ?_
  refine WA ?_
  exact zi [] _ rfl rfl rfl (by decide) (ZNK rfl) (fun _ => .nil) ⟨by rw [e3 hlt], rfl⟩
 ·refine ZZ ?_
  refine WA ?_
  exact zi [] _ rfl rfl rfl (by decide) (ZNK rfl) (fun _ => .nil) ⟨by rw [e4 (by omega)], rfl⟩
theorem fl_bd {x st : Int} (h : 1 ≤ st) (hx : -100000000 ≤ x ∧ x ≤ 100000000) : -100000000 ≤ x / st ∧ x / st ≤ 100000000 := by
 have h1 := Int.ediv_mul_le x (b := st) (by omega)
 have h2 := Int.lt_ediv_add_one_mul_self x (b := st) (by omega)
 constructor
 ·rcases Int.lt_or_le (x / st) (-100000000) with h3 | h3
  ·have h4 : (x / st + 1) * st ≤ -100000000 * st := Int.mul_le_mul_of_nonneg_right (by omega) (by omega)
   have h5 : -100000000 * st ≤ -100000000 := by omega
   omega
  ·exact h3
 ·rcases Int.lt_or_le 100000000 (x / st) with h3 | h3
  ·have h4 : 100000001 * st ≤ x / st * st := Int.mul_le_mul_of_nonneg_right (by omega) (by omega)
   omega
  ·exact h3
theorem pass2_v (g : Grd) (pv v p4 p8 : Value) (hs : 1 ≤ g.st ∧ g.st ≤ 10000) (x : Int) (hx : -100000000 ≤ x ∧ x ≤ 100000000) : ACalls Tryz.prog 161 [.c (I x), .c (.p p4 [.p pv (gRow g v)]), .c (.p p8 [I (g.st / 2)])] [] fun u H => u = .c (B (decide (x / g.st * g.st + g.st / 2 = x))) ∧ H = [] := by
 obtain ⟨b1, b2⟩ := fl_bd hs.1 hx
 have b3 : -1000000000000 ≤ x / g.st * g.st ∧ x / g.st * g.st ≤ 1000000000000 := by
  have h : (x / g.st * g.st).natAbs ≤ 100000000 * 10000 := by rw [Int.natAbs_mul]; exact Nat.mul_le_mul (by omega) (by omega)
  omega
 have b4 : 0 ≤ g.st / 2 ∧ g.st / 2 ≤ 5000 := by omega
 refine ze (N := 20) Tryz.func161 rfl rfl (by simp) fun E hE => ?_
 refine WA ?_
 refine ZZ ?_
 refine zg [(0, none), (1, none), (2, none), (3, none), (4, none), (6, none), (7, none), (8, none), (9, none), (11, none), (13, none), (5, some [6, 7, 8, 9, 11, 13]), (10, none), (12, none), (14, none), (15, none)] zn (by kernel_rfl) ?_
 refine WX2 ?_
 refine ZT rfl (zO rfl (by kernel_rfl) rfl rfl) ?_
 iterate 3 refine WX2 ?_
 refine ZT rfl (zO rfl (by kernel_rfl) rfl rfl) ?_
 iterate 3 refine WX2 ?_
 refine ZT rfl (zO rfl (by kernel_rfl) rfl rfl) ?_
 refine WP ?_
 refine zY rfl rfl (za false (fun _ => pflo_v x g.st (by omega) (by omega)) rfl .fn rfl (by decide) (by kernel_rfl) rfl (fun _ => C0 rfl) (by simp)) ?_
 rintro _ _ ⟨_, _, _, ⟨rfl, rfl⟩, hF, hH⟩
 (refine NST hF hH ?_; clear hF hH; rintro rfl rfl)
 refine ⟨zj (by first | exact zu rfl rfl rfl (zO rfl (by kernel_rfl) rfl rfl) rfl) (zj (by first | exact zu rfl rfl rfl (rd_nil rfl rfl) rfl | exact zu rfl rfl rfl (rd_nilq rfl rfl) rfl | exact zu rfl rfl rfl (rd_nilcp rfl rfl) rfl) (zj (by first | exact zu rfl rfl rfl (ZX (KF (t := 145) (f := 0) rfl rfl)) rfl) (zj (by first | exact zu rfl rfl rfl (ZL (KK (t := 3) rfl)) rfl) (zj (by first | exact zu rfl rfl rfl (zO rfl (by kernel_rfl) rfl rfl) rfl) (zj (by first | exact zu rfl rfl rfl (zB rfl rfl) rfl) (zm)))))), ?_⟩
 refine WQ ?_
 exact zi [] _ rfl rfl rfl (by decide) (ZNK rfl) (fun _ => .nil) ⟨rfl, rfl⟩
theorem pass1_v (g : Grd) (pv v p4 : Value) (hg : GOk g) (hs : 1 ≤ g.st ∧ g.st ≤ 10000) (on : List Bool) (ho : on.length = g.w * g.h) (x y : Int) (hx : -100000000 ≤ x ∧ x ≤ 100000000) (hy : -100000000 ≤ y ∧ y ≤ 100000000) : ACallsX true Tryz.prog 159 [.c (I x), .c (I y), .c (.p p4 [.p pv (gRow g v)]), .p 2 0 0] [gB g.st g.x g.y g.w g.h 1 (g.w * g.h), gArr (g.w * g.h) on, .box [.p 0 0 0]] fun u H => u = .t [] ∧ H = [gB g.st g.x g.y g.w g.h 1 (g.w * g.h), gArr (g.w * g.h) (setQ g on (x / g.st, y / g.st)), .box [.p 0 0 0]] := by
 obtain ⟨b1, b2⟩ := fl_bd hs.1 hx
 obtain ⟨b3, b4⟩ := fl_bd hs.1 hy
 have hnb : g.w * g.h ≤ 1000000 := by have := hg.n; rw [hg.len] at this; exact this
 refine zK true (N := 28) Tryz.func159 rfl rfl (by simp) fun E hE hP => ?_
 refine ZZ ?_
 refine zg [(0, none), (1, none), (2, none), (3, none), (4, none), (6, none), (7, none), (8, none), (9, none), (10, none), (5, some [6, 7, 8, 9, 10]), (11, some []), (12, none), (13, none)] zn (by kernel_rfl) ?_
 refine WX2 ?_
 refine ZT rfl (zO rfl (by kernel_rfl) rfl rfl) ?_
 iterate 4 refine WX2 ?_
 refine ZT rfl (zO rfl (by kernel_rfl) rfl rfl) ?_
 refine WP ?_
 refine zY rfl rfl (za false (fun _ => pflo_v x g.st (by omega) (by omega)) rfl .fn rfl (by decide) (by kernel_rfl) rfl (fun _ => C0 rfl) (by simp)) ?_
 rintro _ _ ⟨_, _, _, ⟨rfl, rfl⟩, hF, hH⟩
 (refine NST hF hH ?_; clear hF hH; rintro rfl rfl)
 refine ⟨zj (by first | exact zu rfl rfl rfl (zB rfl rfl) rfl) (zj (by first | exact zu rfl rfl rfl (zO rfl (by kernel_rfl) rfl rfl) rfl) (zj (by first | exact zu rfl rfl rfl (rd_nil rfl rfl) rfl | exact zu rfl rfl rfl (rd_nilq rfl rfl) rfl | exact zu rfl rfl rfl (rd_nilcp rfl rfl) rfl) (zj (by first | exact zu rfl rfl rfl (ZX (KF (t := 145) (f := 0) rfl rfl)) rfl) (zj (by first | exact zu rfl rfl rfl (ZL (KK (t := 3) rfl)) rfl) (zm))))), ?_⟩
 refine zY rfl rfl (za false (fun _ => pflo_v y g.st (by omega) (by omega)) rfl .fn rfl (by decide) (by kernel_rfl) rfl (fun _ => C0 rfl) (by simp)) ?_
 rintro _ _ ⟨_, _, _, ⟨rfl, rfl⟩, hF, hH⟩
 (refine NST hF hH ?_; clear hF hH; rintro rfl rfl)
 refine ⟨zm, ?_⟩
 refine WQ ?_
 by_cases hm : (x / g.st, y / g.st) ∈ covG g
 ·have hsq : setQ g on (x / g.st, y / g.st) = on.set (ixG g.x g.y g.w (x / g.st, y / g.st)) true := by unfold setQ; rw [if_pos hm]
  have hdc : decide ((x / g.st, y / g.st) ∈ covG g) = true := decide_eq_true hm
  obtain ⟨i1, i2, _⟩ := ix_box (covG_box hg.len hm)
  rw [hsq]
  refine ZR ?_
  refine ZA (zO rfl (by kernel_rfl) rfl rfl) ?_
  refine WO ?_
  refine zf rfl (za false (fun _ => at_v g pv v (x / g.st) (y / g.st) hg (by omega) (by omega)) rfl .fn rfl (by decide) (by kernel_rfl) rfl (fun _ => C0 rfl) (by simp)) ?_
  rintro _ _ ⟨_, _, _, ⟨rfl, rfl⟩, hF, hH⟩
  rw [atG_eq hg.len, hdc] at hF
  (refine NST hF hH ?_; clear hF hH; rintro rfl rfl)
  refine WE ?_
  refine zb rfl ?_
  refine WR ?_
  refine zf rfl (zb1 [0, 1] (fun _ => [gB g.st g.x g.y g.w g.h 1 (g.w * g.h), gArr (g.w * g.h) on]) false (fun _ => set_v g.st g.x g.y g.w g.h on (g.w * g.h) (x / g.st) (y / g.st) (ixG g.x g.y g.w (x / g.st, y / g.st)) ho i1 i2 hnb (by omega) (by omega) hg.x hg.y) rfl .fn rfl (by decide) (by kernel_rfl) rfl (fun _ => .cons (.p rfl) (.cons (.c rfl) (.cons (.c rfl) .nil))) (by decide) ZCH (by simp)) ?_
  rintro F1 H1 ⟨_, _, _, _, ⟨rfl, rfl⟩, hF, hH⟩
  rw [zI] at hF; (refine NSU hF hH ?_; clear hF hH; rintro rfl rfl)
  refine WE ?_
  exact zF1 [some 0, some 1, some 2] (fun _ => [gB g.st g.x g.y g.w g.h 1 (g.w * g.h), gArr (g.w * g.h) (on.set (ixG g.x g.y g.w (x / g.st, y / g.st)) true), .box [.p 0 0 0]]) (.inr rfl) rfl (by decide) (ZNK rfl) ZCH (fun _ => ⟨rfl, rfl⟩)
 ·have hsq : setQ g on (x / g.st, y / g.st) = on := by unfold setQ; rw [if_neg hm]
  have hdc : decide ((x / g.st, y / g.st) ∈ covG g) = false := decide_eq_false hm
  rw [hsq]
  refine ZR ?_
  refine ZA (zO rfl (by kernel_rfl) rfl rfl) ?_
  refine WO ?_
  refine zf rfl (za false (fun _ => at_v g pv v (x / g.st) (y / g.st) hg (by omega) (by omega)) rfl .fn rfl (by decide) (by kernel_rfl) rfl (fun _ => C0 rfl) (by simp)) ?_
  rintro _ _ ⟨_, _, _, ⟨rfl, rfl⟩, hF, hH⟩
  rw [atG_eq hg.len, hdc] at hF
  (refine NST hF hH ?_; clear hF hH; rintro rfl rfl)
  refine WE ?_
  refine zd rfl ?_
  refine ZZ ?_
  exact zF1 [some 0, some 1, some 2] (fun _ => [gB g.st g.x g.y g.w g.h 1 (g.w * g.h), gArr (g.w * g.h) on, .box [.p 0 0 0]]) (.inr rfl) rfl (by decide) (ZNK rfl) ZCH (fun _ => ⟨rfl, rfl⟩)
end Go.Proofs.YtfilfijammemfaaGreatDoor
