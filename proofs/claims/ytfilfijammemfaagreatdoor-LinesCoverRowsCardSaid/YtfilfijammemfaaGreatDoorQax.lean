/- The logic over values: maps; walks through maps and strings. -/
import Derived.Test.YtfilfijammemfaaGreatDoorQaw
import Derived.Test.YtfilfijammemfaaGreatDoorQar
import Derived.Test.YtfilfijammemfaaGreatDoorQas
import Derived.Maps.RangeRun
set_option linter.unusedSimpArgs false
set_option linter.unusedVariables false
-- NEWM
namespace Go.Proofs.YtfilfijammemfaaGreatDoor
open Go Go.RowKit
set_option maxRecDepth 100000
theorem check_r (v : Value) (c : Cel) (h : RCel c) : ACalls Tryz.prog 39 [celA v c] [] fun u H => u = .c (I 0) ∧ H = [] := by
 have hh := h.h
 have hw := h.w
 have := check_v v c (by omega) (fun r hr => by rw [(h.row r hr).1]; omega)
 rw [celF_0.2 h] at this
 exact this
abbrev celR (v : Value) (c : Cel) : List CV := [I c.st, I c.x, I c.y, .r v (tR c.rows)]
set_option maxHeartbeats 2000000 in
theorem pair_v (va vb : Value) (ca cb : Cel) (ha : RCel ca) (hb : RCel cb) (hs : ca.st = cb.st) : ACalls Tryz.prog 76 [celA va ca, celA vb cb] [] fun u H => ∃ p1 o1 p2 o2, u = .t [gV p1 o1 (zc ca), gV p2 o2 (zc cb), .c (I 0)] ∧ H = [] := by
 refine ze (N := 33) Tryz.func76 rfl rfl (by simp) fun E hE => ?_
 refine WA ?_
 refine WA ?_
 refine zk (fun m F H => ∃ k : Nat, m + k = 2 ∧ F = [(2, .p 0 0 0), (3, .p 1 0 0), (12, .o 2 0 2 2), (13, .c (I 2)), (14, .c (I k))] ∧ H = [celB va ca, celB vb cb, .arr 28 4 2 [celR va ca, celR vb cb]]) ?_ ?_
 ·refine zh [some 0, some 1, some 2] (fun _ => [(2, .p 0 0 0), (3, .p 1 0 0), (12, .o 2 0 2 2), (13, .c (I 2)), (14, .c (I (0 : Nat)))]) (fun _ => [celB va ca, celB vb cb, .arr 28 4 2 [celR va ca, celR vb cb]]) (by decide) (ZNL hE) ZCF ZCH (fun _ => ?_)
  exact ⟨2, 0, by omega, rfl, rfl⟩
 rintro m F H ⟨k, hk, rfl, rfl⟩
 refine WA ?_
 refine zl rfl (fun hlt => ?_) (fun hge => ?_)
 ·obtain ⟨w, c, hrow, hc⟩ : ∃ w c, [celR va ca, celR vb cb][k]? = some (celR w c) ∧ RCel c := by
   obtain rfl | rfl : k = 0 ∨ k = 1 := by omega
   ·exact ⟨va, ca, rfl, ha⟩
   ·exact ⟨vb, cb, rfl, hb⟩
  refine WA ?_
  refine WR ?_
  refine zf rfl (za false (fun _ => check_r w c hc) rfl .fn rfl (by decide) (by kernel_rfl) rfl (fun _ => C0 rfl) (by simp)) ?_
  rintro _ _ ⟨_, _, _, ⟨rfl, rfl⟩, hF, hH⟩
  (refine NST hF hH ?_; clear hF hH; rintro rfl rfl)
  refine WE ?_
  refine WA ?_
  refine zd rfl ?_
  refine ZZ ?_
  refine WA ?_
  refine zh [some 0, some 1, some 2] (fun _ => [(2, .p 0 0 0), (3, .p 1 0 0), (12, .o 2 0 2 2), (13, .c (I 2)), (14, .c (I (k + 1 : Nat)))]) (fun _ => [celB va ca, celB vb cb, .arr 28 4 2 [celR va ca, celR vb cb]]) (by decide) (ZNL hE) ZCF ZCH (fun _ => ?_)
  exact ⟨m - 1, by omega, k + 1, by omega, rfl, rfl⟩
 refine ZZ ?_
 refine WA ?_
 refine zd rfl ?_
 refine ZZ ?_
 refine zg [(0, none), (2, none), (1, some [2]), (3, some []), (4, none), (5, none), (6, none)] zn (by kernel_rfl) ?_
 refine WP ?_
 refine zY rfl rfl (za false (fun _ => gridof_v va ca ha) rfl .fn rfl (by decide) (by kernel_rfl) rfl (fun _ => C0 rfl) (by simp)) ?_
 rintro _ _ ⟨_, _, _, ⟨p1, o1, rfl, rfl⟩, hF, hH⟩
 (refine NST hF hH ?_; clear hF hH; rintro rfl rfl)
 refine ⟨zj (by first | exact zu rfl rfl rfl (ZK (KK (t := 28) rfl)) rfl) (zm), ?_⟩
 refine zY rfl rfl (za false (fun _ => gridof_v vb cb hb) rfl .fn rfl (by decide) (by kernel_rfl) rfl (fun _ => C0 rfl) (by simp)) ?_
 rintro _ _ ⟨_, _, _, ⟨p2, o2, rfl, rfl⟩, hF, hH⟩
 (refine NST hF hH ?_; clear hF hH; rintro rfl rfl)
 refine ⟨zm, ?_⟩
 refine WQ ?_
 all_goals (exact zq (us := [gV p1 o1 (zc ca), gV p2 o2 (zc cb), .c (I 0)]) [] (fun _ => .t [gV p1 o1 (zc ca), gV p2 o2 (zc cb), .c (I 0)]) (fun _ => []) (.tmp rfl (.tmp rfl (.tmp rfl .nil))) (by decide) (fun i hi => absurd hi (Nat.not_lt_zero i)) (fun g' => .tL (.cons (.c rfl) (.cons (.c rfl) (.cons (.c rfl) .nil)))) (fun _ => .nil) (fun g' => ⟨p1, o1, p2, o2, rfl, rfl⟩))
end Go.Proofs.YtfilfijammemfaaGreatDoor
-- NEWM
namespace Go.Proofs.YtfilfijammemfaaGreatDoor
open Go Go.RowKit
set_option maxRecDepth 100000
theorem zQ (c : Cel) : (zc c).st = c.st := by unfold zc; split <;> rfl
abbrev minL (A B : List Spot) : List Spot := A.filter fun q => !decide (q ∈ B)
abbrev botL (A B : List Spot) : List Spot := A.filter fun q => decide (q ∈ B)
theorem normC_fil {c : Cel} (h : RCel c) {p : Spot → Bool} {L : List Spot} (hL : ∀ q, q ∈ L ↔ q ∈ covL c ∧ p q = true) : normC (zc c).st (covG (filG (zc c) p)) = normC c.st L := by
 rw [zQ]
 exact normC_mem fun q => by rw [filG_cov, zN h, hL]
theorem at_cov {c : Cel} (h : RCel c) (a b : Int) : atG (zc c) a b = decide ((a, b) ∈ covL c) := by
 rw [atG_eq (grdOf_len h)]
 simp only [zN h]
theorem at_r (p2 o2 : Value) (c : Cel) (h : RCel c) (a b : Int) (ha : -100000000 ≤ a ∧ a ≤ 100000000) (hb : -100000000 ≤ b ∧ b ≤ 100000000) : ACalls Tryz.prog 81 [gV p2 o2 (zc c), .c (I a), .c (I b)] [] fun u H => u = .c (B (decide ((a, b) ∈ covL c))) ∧ H = [] := by
 have := at_v (zc c) p2 o2 a b (za1 h) ha hb
 rw [at_cov h] at this
 exact this
set_option maxHeartbeats 2000000 in
theorem both_v (va vb : Value) (ca cb : Cel) (ha : RCel ca) (hb : RCel cb) (hs : ca.st = cb.st) : ACalls Tryz.prog 30 [celA va ca, celA vb cb] [] fun u H => ∃ v', u = .t [celA v' (normC ca.st (botL (covL ca) (covL cb))).1, .c (I (normC ca.st (botL (covL ca) (covL cb))).2)] ∧ H = [] := by
 have hst := ha.st
 have hnf := normC_fil ha (p := fun q => decide (q ∈ covL cb)) (L := botL (covL ca) (covL cb)) (fun q => by rw [List.mem_filter])
 generalize normC ca.st (botL (covL ca) (covL cb)) = R at *
 refine ze (N := 26) Tryz.func30 rfl rfl (by simp) fun E hE => ?_
 refine WA ?_
 refine WR ?_
 refine zf rfl (za false (fun _ => pair_v va vb ca cb ha hb hs) rfl .fn rfl (by decide) (by kernel_rfl) rfl (fun _ => C0 rfl) (by simp)) ?_
 rintro _ _ ⟨_, _, _, ⟨p1, o1, p2, o2, rfl, rfl⟩, hF, hH⟩
 (refine NST hF hH ?_; clear hF hH; rintro rfl rfl)
 refine WE ?_
 refine WA ?_
 refine zd rfl ?_
 refine ZZ ?_
 refine ZR ?_
 iterate 2 refine WX1 ?_
 refine ZA (rd_bound rfl rfl) ?_
 refine zf rfl (za false (fun _ => chosen_v 81 (.via 0 #[] 81 false) (.p p2 (gRow (zc cb) o2)) (fun (vs : List AV) => [AV.c (CV.p p2 (gRow (zc cb) o2))] ++ vs) (fun q => decide (q ∈ covL cb)) (by kernel_rfl) (fun F x vs h => .bnd h) (fun _ _ => rfl) (fun a b h1 h2 => at_r p2 o2 cb hb a b (by omega) (by omega)) (zc ca) p1 o1 (za1 ha) (by rw [zQ]; omega)) rfl .fn rfl (by decide) (by kernel_rfl) rfl (fun _ => C0 rfl) (by simp)) ?_
 rintro _ _ ⟨_, _, _, ⟨v', rfl, rfl⟩, hF, hH⟩
 rw [hnf] at hF
 (refine NST hF hH ?_; clear hF hH; rintro rfl rfl)
 refine WE ?_
 exact zq (us := [celA v' R.1, .c (I R.2)]) [] (fun _ => .t [celA v' R.1, .c (I R.2)]) (fun _ => []) (.cella (n := 4) rfl (by kernel_rfl) (Cells.box rfl) (by simp) (by (try simp only [nm, putL, Nat.reduceAdd, cellsOf, cvOf]) <;> rfl) (.tmp rfl .nil)) (by decide) (fun i hi => absurd hi (Nat.not_lt_zero i)) (fun g' => .tL (.cons (.aL (.cons (.c rfl) (.cons (.c rfl) (.cons (.c rfl) (.cons (.c rfl) .nil))))) (.cons (.c rfl) .nil))) (fun _ => .nil) (fun g' => ⟨v', rfl, rfl⟩)
end Go.Proofs.YtfilfijammemfaaGreatDoor
namespace Go.Proofs.YtfilfijammemfaaGreatDoor
theorem hit_of {c : Cel} {i k : Nat} {r : List UInt8} (h1 : c.rows[i]? = some r) (h2 : r[k]? = some 35) : ((c.x.tdiv c.st + (k : Nat), c.y.tdiv c.st + (i : Nat)) : Spot) ∈ covL c := hitC_mem.2 ⟨i, k, r, h1, h2, rfl⟩
def spanB (c : Cel) : Bool := decide (covL c ≠ []) && decide (x0 (covL c) = c.x.tdiv c.st) && decide (y0 (covL c) = c.y.tdiv c.st) && decide (x1 (covL c) = c.x.tdiv c.st + (wid c.rows : Int) - 1) && decide (y1 (covL c) = c.y.tdiv c.st + (c.rows.length : Int) - 1)
theorem headD_at {α : Type} {l : List α} {d a : α} (h : l[0]? = some a) : l.headD d = a := by
 cases l with
 | nil => cases h
 | cons b l => simpa using h
theorem lastD_at {α : Type} {l : List α} {d a : α} {n : Nat} (hn : l.length = n + 1) (h : l[n]? = some a) : l.getLastD d = a := by
 have : l ≠ [] := by intro e; rw [e] at hn; cases hn
 rw [List.getLastD_eq_getLast?, List.getLast?_eq_getElem?, hn, Nat.add_sub_cancel, h]; rfl
theorem span_tight {c : Cel} (hr : ∀ r ∈ c.rows, r.length = wid c.rows) (hne : c.rows ≠ []) : spanB c = tightB c.rows := by
 obtain ⟨n, hn⟩ : ∃ n, c.rows.length = n + 1 := ⟨c.rows.length - 1, by have := List.length_pos_iff.2 hne; omega⟩
 obtain ⟨r0, h0⟩ : ∃ r, c.rows[0]? = some r := ⟨_, List.getElem?_eq_getElem (by omega)⟩
 obtain ⟨rn, hrn⟩ : ∃ r, c.rows[n]? = some r := ⟨_, List.getElem?_eq_getElem (by omega)⟩
 have hb : ∀ p ∈ covL c, ∃ (i k : Nat) (r : List UInt8), c.rows[i]? = some r ∧ r[k]? = some 35 ∧ i ≤ n ∧ k < wid c.rows ∧ p.1 = c.x.tdiv c.st + (k : Nat) ∧ p.2 = c.y.tdiv c.st + (i : Nat) := fun p hp => by
  obtain ⟨i, k, r, h1, h2, rfl⟩ := hitC_mem.1 hp
  have e1 := (List.getElem?_eq_some_iff.1 h1).1
  have e2 := (List.getElem?_eq_some_iff.1 h2).1
  rw [hr r (List.mem_of_getElem? h1)] at e2
  exact ⟨i, k, r, h1, h2, by omega, e2, rfl, rfl⟩
 have hT : tightB c.rows = (r0.contains 35 && rn.contains 35 && (c.rows.any fun r => r[0]? == some 35) && (c.rows.any fun r => r[wid c.rows - 1]? == some 35)) := by
  rw [tightB, headD_at h0, lastD_at hn hrn]
 rw [hT]
 by_cases hc : covL c = []
 ·have hno : r0.contains 35 = false := by
   cases e : r0.contains 35 with
   | false => rfl
   | true =>
    obtain ⟨k, hk⟩ := List.getElem?_of_mem (List.contains_iff_mem.1 e)
    have := hit_of h0 hk
    rw [hc] at this; cases this
  rw [hno]
  unfold spanB
  rw [decide_eq_false (by simp [hc])]
  rfl
 obtain ⟨⟨p1, hp1, e1⟩, ⟨p2, hp2, e2⟩, ⟨p3, hp3, e3⟩, ⟨p4, hp4, e4⟩⟩ := x0_at hc
 have k1 : decide (y0 (covL c) = c.y.tdiv c.st) = r0.contains 35 := by
  rw [Bool.eq_iff_iff, decide_eq_true_iff, List.contains_iff_mem]
  obtain ⟨i, k, r, q1, q2, q3, q4, q5, q6⟩ := hb p3 hp3
  constructor
  ·intro e
   obtain rfl : i = 0 := by omega
   rw [h0] at q1
   obtain rfl := Option.some.inj q1
   exact List.mem_of_getElem? q2
  ·intro h
   obtain ⟨k', hk'⟩ := List.getElem?_of_mem h
   have := (x0_le (hit_of h0 hk')).2.2.1
   simp only at this
   omega
 have k2 : decide (y1 (covL c) = c.y.tdiv c.st + (c.rows.length : Int) - 1) = rn.contains 35 := by
  rw [Bool.eq_iff_iff, decide_eq_true_iff, List.contains_iff_mem]
  obtain ⟨i, k, r, q1, q2, q3, q4, q5, q6⟩ := hb p4 hp4
  constructor
  ·intro e
   obtain rfl : i = n := by omega
   rw [hrn] at q1
   obtain rfl := Option.some.inj q1
   exact List.mem_of_getElem? q2
  ·intro h
   obtain ⟨k', hk'⟩ := List.getElem?_of_mem h
   have := (x0_le (hit_of hrn hk')).2.2.2
   simp only at this
   omega
 have k3 : decide (x0 (covL c) = c.x.tdiv c.st) = (c.rows.any fun r => r[0]? == some 35) := by
  rw [Bool.eq_iff_iff, decide_eq_true_iff, List.any_eq_true]
  obtain ⟨i, k, r, q1, q2, q3, q4, q5, q6⟩ := hb p1 hp1
  constructor
  ·intro e
   obtain rfl : k = 0 := by omega
   exact ⟨r, List.mem_of_getElem? q1, by rw [q2]; rfl⟩
  ·rintro ⟨r', hr', h⟩
   obtain ⟨i', hi'⟩ := List.getElem?_of_mem hr'
   have := (x0_le (hit_of hi' (by simpa using h))).1
   simp only at this
   omega
 have k4 : decide (x1 (covL c) = c.x.tdiv c.st + (wid c.rows : Int) - 1) = (c.rows.any fun r => r[wid c.rows - 1]? == some 35) := by
  rw [Bool.eq_iff_iff, decide_eq_true_iff, List.any_eq_true]
  obtain ⟨i, k, r, q1, q2, q3, q4, q5, q6⟩ := hb p2 hp2
  constructor
  ·intro e
   obtain rfl : k = wid c.rows - 1 := by omega
   exact ⟨r, List.mem_of_getElem? q1, by rw [q2]; rfl⟩
  ·rintro ⟨r', hr', h⟩
   obtain ⟨i', hi'⟩ := List.getElem?_of_mem hr'
   have := (x0_le (hit_of hi' (by simpa using h))).2.1
   simp only at this
   omega
 unfold spanB
 rw [decide_eq_true hc, k1, k2, k3, k4, Bool.true_and]
 generalize r0.contains 35 = b1
 generalize rn.contains 35 = b2
 generalize (c.rows.any fun r => r[0]? == some 35) = b3
 generalize (c.rows.any fun r => r[wid c.rows - 1]? == some 35) = b4
 revert b1 b2 b3 b4
 decide
def rowsR (rows : List (List UInt8)) : Int := if 200 < rows.length then 2 else if rowsF (wid rows) rows ≠ 0 then rowsF (wid rows) rows else if rows ≠ [] ∧ 200 < wid rows then 2 else 0
def celR2 (c : Cel) : Int :=
 if stepB c.st = true then 1
 else if c.rows = [] ∧ (c.x ≠ 0 ∨ c.y ≠ 0) then 3
 else if rowsR c.rows ≠ 0 then rowsR c.rows
 else if (farB c.x || farB c.y) = true then 1
 else if c.x.tmod c.st ≠ 0 ∨ c.y.tmod c.st ≠ 0 then 3
 else if c.rows = [] then 0
 else if spanB c = true then 0 else 3
theorem celR2_eq (c : Cel) : celR2 c = celF c := by
 unfold celR2 celF
 by_cases h1 : stepB c.st = true
 ·rw [if_pos h1, if_pos h1]
 rw [if_neg h1, if_neg h1]
 by_cases h2 : c.rows = [] ∧ (c.x ≠ 0 ∨ c.y ≠ 0)
 ·rw [if_pos h2, if_pos h2]
 rw [if_neg h2, if_neg h2]
 by_cases h3 : 200 < c.rows.length
 ·have : rowsR c.rows = 2 := by rw [rowsR, if_pos h3]
  rw [this, if_pos (by decide), if_pos h3]
 rw [if_neg h3]
 by_cases h4 : c.rows = []
 ·have hxy : c.x = 0 ∧ c.y = 0 := by
   refine ⟨?_, ?_⟩
   ·apply Classical.byContradiction; intro e; exact h2 ⟨h4, .inl e⟩
   ·apply Classical.byContradiction; intro e; exact h2 ⟨h4, .inr e⟩
  have : rowsR c.rows = 0 := by rw [h4]; rfl
  rw [this, hxy.1, hxy.2, if_pos h4, if_pos h4, if_neg (by decide), if_neg (by decide), if_neg (by simp)]
 rw [if_neg h4, if_neg h4]
 by_cases h5 : rowsF (wid c.rows) c.rows ≠ 0
 ·have : rowsR c.rows = rowsF (wid c.rows) c.rows := by rw [rowsR, if_neg h3, if_pos h5]
  rw [this, if_pos h5, if_pos h5]
 rw [if_neg h5]
 by_cases h6 : 200 < wid c.rows
 ·have : rowsR c.rows = 2 := by rw [rowsR, if_neg h3, if_neg h5, if_pos ⟨h4, h6⟩]
  rw [this, if_pos (by decide), if_pos h6]
 have : rowsR c.rows = 0 := by rw [rowsR, if_neg h3, if_neg h5, if_neg (fun h => h6 h.2)]
 rw [this, if_neg (by decide), if_neg h6]
 by_cases h7 : (farB c.x || farB c.y) = true
 ·rw [if_pos h7, if_pos h7]
 rw [if_neg h7, if_neg h7, span_tight (fun r hr => (rowsF_0.1 (by simpa using h5) r hr).1) h4]
 by_cases h8 : c.x.tmod c.st ≠ 0 ∨ c.y.tmod c.st ≠ 0
 ·rw [if_pos h8, if_pos (by rcases h8 with h | h <;> first | exact .inl h | exact .inr (.inl h))]
 rw [if_neg h8]
 cases ht : tightB c.rows with
 | true => rw [if_pos rfl, if_neg]; exact (fun h => by rcases h with h | h | h <;> first | exact h8 (.inl h) | exact h8 (.inr h) | simp at h)
 | false => rw [if_neg (by simp), if_pos (.inr (.inr rfl))]
end Go.Proofs.YtfilfijammemfaaGreatDoor
namespace Go.Proofs.YtfilfijammemfaaGreatDoor
open Go Go.RowKit
structure Enc (α : Type) where
 v : α → Value
 x : α → AV
 den : ∀ a ρ H, (x a).den ρ H = v a
 wf : ∀ a w S ρ H, WF w S ρ H (x a)
section
variable {P : Program} {w : World}
theorem zE1 {t : TypeId} {d : TypeDesc} (h : P.underlying t = some d) : (underlying t).run P w = .ok d w := by unfold underlying; simp [h]
theorem mp_get {b ck : Nat} {ms : Array MapEntry} (h : w.heap[b]? = some (.map ms ck)) : (getObj b).run P w = .ok (.map ms ck) w := by
 unfold getObj
 simp [Sem.run, h]
theorem mp_put {B ck : Nat} {ob : Obj} {ms : Array MapEntry} (h : w.heap[B]? = some (.map ms ck)) : (setObj B ob).run P w = .ok () (zr w B ob) := by
 unfold setObj
 simp [Sem.run, h, zr]
def kpos {α : Type} [DecidableEq α] (a : α) : List α → Nat → Option Nat
 | [], _ => none
 | b :: l, i => if a = b then some i else kpos a l (i + 1)
structure KeyOk (P : Program) (kt : TypeId) {α : Type} [DecidableEq α] (e : Enc α) : Prop where
 chk : ∀ b a w, (Instr.checkKey b 10000 kt (e.v a)).run P w = .ok () w
 bits : ∀ a, Instr.sameBits 10000 (e.v a) (e.v a) = true
 find : ∀ (ms : List MapEntry) (l : List α) a w, ms.map (·.key) = l.map e.v → ∃ r, (Instr.findKey kt (e.v a) ms).run P w = .ok r w ∧ (kpos a l 0 = none → r = none) ∧ ∀ i, kpos a l 0 = some i → ∃ m, ms[i]? = some m ∧ r = some (i, m.val)
theorem findNow_of {α : Type} [DecidableEq α] {e : Enc α} {d : TypeDesc} (hn : ∀ a b, Instr.sameNow d (e.v a) (e.v b) = some (decide (a = b))) (a : α) : ∀ (ms : List MapEntry) (l : List α) (i : Nat), ms.map (·.key) = l.map e.v → ∃ r, Instr.findNow d (e.v a) ms i = some r ∧ (kpos a l i = none → r = none) ∧ ∀ j, kpos a l i = some j → ∃ m, i ≤ j ∧ ms[j - i]? = some m ∧ r = some (j, m.val)
 | [], [], i, _ => ⟨none, rfl, fun _ => rfl, fun j h => (by cases h)⟩
 | [], _ :: _, _, h => (by simp at h)
 | _ :: _, [], _, h => (by simp at h)
 | m :: ms, b :: l, i, h => by
  simp only [List.map_cons, List.cons.injEq] at h
  unfold Instr.findNow kpos
  rw [h.1, hn]
  by_cases hab : a = b
  ·rw [decide_eq_true hab, if_pos hab]
   exact ⟨_, rfl, fun h => (by cases h), fun j hj => (by injection hj with hj; subst hj; exact ⟨m, Nat.le_refl _, by simp, rfl⟩)⟩
  ·rw [decide_eq_false hab, if_neg hab]
   obtain ⟨r, h1, h2, h3⟩ := findNow_of hn a ms l (i + 1) h.2
   refine ⟨r, h1, h2, fun j hj => ?_⟩
   obtain ⟨m', g1, g2, g3⟩ := h3 j hj
   exact ⟨m', by omega, by rw [show j - i = (j - (i + 1)) + 1 by omega, List.getElem?_cons_succ]; exact g2, g3⟩
theorem findAsk_of {α : Type} [DecidableEq α] {e : Enc α} {kt : TypeId} (he : ∀ a b w, (Op.equal kt (e.v a) (e.v b)).run P w = .ok (decide (a = b)) w) (a : α) : ∀ (ms : List MapEntry) (l : List α) (i : Nat), ms.map (·.key) = l.map e.v → ∃ r, (Instr.findAsking kt (e.v a) ms i).run P w = .ok r w ∧ (kpos a l i = none → r = none) ∧ ∀ j, kpos a l i = some j → ∃ m, i ≤ j ∧ ms[j - i]? = some m ∧ r = some (j, m.val)
 | [], [], i, _ => ⟨none, rfl, fun _ => rfl, fun j h => (by cases h)⟩
 | [], _ :: _, _, h => (by simp at h)
 | _ :: _, [], _, h => (by simp at h)
 | m :: ms, b :: l, i, h => by
  simp only [List.map_cons, List.cons.injEq] at h
  unfold Instr.findAsking kpos
  simp only [Sem.run_bind]
  rw [h.1, he]
  simp only [Result.andThen_ok]
  by_cases hab : a = b
  ·rw [decide_eq_true hab, if_pos hab, if_pos rfl]
   exact ⟨_, rfl, fun h => (by cases h), fun j hj => (by injection hj with hj; subst hj; exact ⟨m, Nat.le_refl _, by simp, rfl⟩)⟩
  ·rw [decide_eq_false hab, if_neg hab, if_neg (by simp)]
   obtain ⟨r, h1, h2, h3⟩ := findAsk_of he a ms l (i + 1) h.2
   refine ⟨r, h1, h2, fun j hj => ?_⟩
   obtain ⟨m', g1, g2, g3⟩ := h3 j hj
   exact ⟨m', by omega, by rw [show j - i = (j - (i + 1)) + 1 by omega, List.getElem?_cons_succ]; exact g2, g3⟩
theorem KeyOk.ask {kt : TypeId} {α : Type} [DecidableEq α] {e : Enc α} {d : TypeDesc} (hu : P.underlying kt = some d) (hn : ∀ a b, Instr.sameNow d (e.v a) (e.v b) = none) (he : ∀ a b w, (Op.equal kt (e.v a) (e.v b)).run P w = .ok (decide (a = b)) w) (hc : ∀ b a w, (Instr.checkKey b 10000 kt (e.v a)).run P w = .ok () w) (hb : ∀ a, Instr.sameBits 10000 (e.v a) (e.v a) = true) : KeyOk P kt e :=
 ⟨hc, hb, fun ms l a w h => by
  obtain ⟨r, h1, h2, h3⟩ := findAsk_of (w := w) he a ms l 0 h
  cases ms with
  | nil =>
   cases l with
   | nil => exact ⟨none, by unfold Instr.findKey; simp only [Sem.run_bind, zE1 hu, Result.andThen_ok, Instr.findNow]; rfl, fun _ => rfl, fun i hi => (by cases hi)⟩
   | cons b l => simp at h
  | cons m ms =>
   cases l with
   | nil => simp at h
   | cons b l =>
    refine ⟨r, ?_, h2, fun i hi => ?_⟩
    ·unfold Instr.findKey
     simp only [Sem.run_bind, zE1 hu, Result.andThen_ok, Instr.findNow]
     have hk : m.key = e.v b := by simpa using (List.cons.inj h).1
     rw [hk, hn]
     exact h1
    ·obtain ⟨m, _, g2, g3⟩ := h3 i hi
     exact ⟨m, g2, g3⟩⟩
end
abbrev mpO {α β : Type} (ke : Enc α) (ve : Enc β) (l : List (Nat × α × β)) (ck : Nat) : OB := .map (l.map fun e => (e.1, ke.v e.2.1, .s (ve.v e.2.2))) ck
def mget {α β : Type} [DecidableEq α] : List (Nat × α × β) → α → Option β
 | [], _ => none
 | e :: l, a => if a = e.2.1 then some e.2.2 else mget l a
def mset {α β : Type} [DecidableEq α] (ck : Nat) (a : α) (b : β) : List (Nat × α × β) → List (Nat × α × β)
 | [] => [(ck, a, b)]
 | e :: l => if a = e.2.1 then (e.1, a, b) :: l else e :: mset ck a b l
def mclk {α β : Type} [DecidableEq α] (ck : Nat) (a : α) (l : List (Nat × α × β)) : Nat := if (mget l a).isSome then ck else ck + 1
theorem kpos_mget {α β : Type} [DecidableEq α] {a : α} : ∀ (l : List (Nat × α × β)) (i : Nat), (kpos a (l.map (·.2.1)) i = none → mget l a = none) ∧ ∀ j, kpos a (l.map (·.2.1)) i = some j → i ≤ j ∧ ∃ e, l[j - i]? = some e ∧ mget l a = some e.2.2 ∧ e.2.1 = a
 | [], i => ⟨fun _ => rfl, fun j h => (by cases h)⟩
 | e :: l, i => by
  simp only [List.map_cons, kpos, mget]
  by_cases h : a = e.2.1
  ·rw [if_pos h, if_pos h]
   exact ⟨fun h => (by cases h), fun j hj => (by injection hj with hj; subst hj; exact ⟨Nat.le_refl _, e, by simp, rfl, h.symm⟩)⟩
  ·rw [if_neg h, if_neg h]
   obtain ⟨h1, h2⟩ := kpos_mget (a := a) l (i + 1)
   refine ⟨h1, fun j hj => ?_⟩
   obtain ⟨g1, e', g2, g3⟩ := h2 j hj
   exact ⟨by omega, e', by rw [show j - i = (j - (i + 1)) + 1 by omega, List.getElem?_cons_succ]; exact g2, g3⟩
theorem mset_none {α β : Type} [DecidableEq α] {ck : Nat} {a : α} {b : β} : ∀ {l : List (Nat × α × β)}, mget l a = none → mset ck a b l = l ++ [(ck, a, b)]
 | [], _ => rfl
 | e :: l, h => by
  simp only [mget] at h
  split at h
  ·cases h
  ·rename_i hne
   simp only [mset]
   rw [if_neg hne, mset_none h]; rfl
theorem mset_some {α β : Type} [DecidableEq α] {ck : Nat} {a : α} {b : β} : ∀ {l : List (Nat × α × β)} {i j : Nat}, kpos a (l.map (·.2.1)) i = some j → i ≤ j ∧ mset ck a b l = l.modify (j - i) (fun e => (e.1, a, b))
 | [], _, _, h => (by cases h)
 | e :: l, i, j, h => by
  simp only [List.map_cons, kpos] at h
  simp only [mset]
  split at h
  ·rename_i he
   injection h with h
   subst h
   rw [if_pos he]
   exact ⟨Nat.le_refl _, by simp⟩
  ·rename_i he
   obtain ⟨h1, h2⟩ := mset_some (ck := ck) (b := b) h
   rw [if_neg he, h2]
   exact ⟨by omega, by rw [show j - i = (j - (i + 1)) + 1 by omega]; rfl⟩
section
variable {P : Program} {N : Nat} {E : Env} {F : Fm} {H : List OB} {o : Oper} {S : Nat → Prop} {ρ : List (Option Nat)} {a : Act} {w : World}
theorem ef_mkmap {t : TypeId} {d : Nat} (ho : o.op = .makeMap t none) (hd : o.dst = some d) (hN : d < N) : Ef P N E o F H fun F' H' => F' = (d, .mp H.length) :: F ∧ H' = H ++ [.map [] 0] :=
 ef_of hd hN ⟨rfl, rfl⟩ fun S ρ a w hR => by
  refine ⟨S, ρ ++ [some w.heap.size], w.alloc (.map #[] 0), ?_, ?_, .mp (by simp) (by simp [zt, hR.hp.len])⟩
  ·have : (AV.mp H.length).den (ρ ++ [some w.heap.size]) (H ++ [.map [] 0]) = .map (some w.heap.size) := by simp [AV.den, zt, hR.hp.len]
   rw [this]
   simp only [execOp, ho, Instr.makeMap, Option.map_none, Sem.run_bind, Sem.run_pure, Result.andThen_ok, run_newObj, World.alloc_eq]
  ·exact hR.newO (.map #[] 0) (.map [] 0) ⟨_, #[], rfl, za2 _ _, rfl, fun e h => (by cases h)⟩
theorem mp_own {α β : Type} {ke : Enc α} {ve : Enc β} {l : List (Nat × α × β)} {ck b : Nat} (hp : RH w S ρ H) (hb : H[b]? = some (mpO ke ve l ck)) : ∃ B ms, atB ρ b = some B ∧ w.heap[B]? = some (.map ms ck) ∧ ms.toList = l.map (fun e => (⟨ke.v e.2.1, ve.v e.2.2, e.1⟩ : MapEntry)) := by
 obtain ⟨B, ms, h1, h2, h3, h4⟩ := hp.blk b _ hb
 exact ⟨B, ms, h1, h2, by rw [h3, List.map_map]; rfl⟩
theorem rd_lookup {α β : Type} [DecidableEq α] {ke : Enc α} {ve : Enc β} {t kt et : TypeId} {x ix : Operand} {b ck : Nat} {l : List (Nat × α × β)} {k : α} {xk : AV} {z : β} (hk : KeyOk P kt ke) (ho : o.op = .lookup t x ix false) (ht : P.underlying t = some (.map kt et)) (hz : (P.info? et).bind (·.zero) = some (ve.v z))
    (hx : ev F x = some (.mp b)) (hH : H[b]? = some (mpO ke ve l ck)) (hi : ev F ix = some xk) (hxk : ∀ ρ H, xk.den ρ H = ke.v k) : Rd P N E o F H (ve.x ((mget l k).getD z)) := fun S ρ a w hR => by
 obtain ⟨h1, _⟩ := hR.ev hx
 have h2 := (hR.ev hi).1
 rw [hxk] at h2
 obtain ⟨B, ms, g1, g2, g3⟩ := mp_own hR.hp hH
 simp only [AV.den, g1] at h1
 obtain ⟨r, f1, f2, f3⟩ := hk.find ms.toList (l.map (·.2.1)) k w (by rw [g3, List.map_map, List.map_map]; rfl)
 obtain ⟨q1, q2⟩ := kpos_mget (a := k) l 0
 have hzr : (zeroValue et).run P w = .ok (ve.v z) w := by
  unfold zeroValue typeInfo
  cases hi : P.info? et with
  | none => rw [hi] at hz; cases hz
  | some i => rw [hi] at hz; simp only [Option.bind_some] at hz; simp [hi, hz]
 refine ⟨?_, ve.wf _ _ _ _ _⟩
 rw [ve.den]
 cases hp : kpos k (l.map (·.2.1)) 0 with
 | none =>
  rw [f2 hp] at f1
  rw [q1 hp]
  simp only [execOp, ho, h1, h2, Instr.lookup, Sem.run_bind, zE1 ht, Result.andThen_ok, mp_get g2, Sem.run_pure, hk.chk, f1, hzr]
  rfl
 | some j =>
  obtain ⟨m, f4, f5⟩ := f3 j hp
  obtain ⟨_, e, q3, q4, _⟩ := q2 j hp
  rw [f5] at f1
  have hm : m.val = ve.v e.2.2 := by
   rw [g3, List.getElem?_map] at f4
   rw [Nat.sub_zero] at q3
   rw [q3] at f4
   simp only [Option.map_some, Option.some.injEq] at f4
   rw [← f4]
  rw [q4]
  simp only [execOp, ho, h1, h2, Instr.lookup, Sem.run_bind, zE1 ht, Result.andThen_ok, mp_get g2, Sem.run_pure, hk.chk, f1, hm]
  rfl
theorem rd_lookupk {α β : Type} [DecidableEq α] {ke : Enc α} {ve : Enc β} {t kt et : TypeId} {x ix : Operand} {b ck : Nat} {l : List (Nat × α × β)} {k : α} {xk : AV} {z : β} (hk : KeyOk P kt ke) (ho : o.op = .lookup t x ix true) (ht : P.underlying t = some (.map kt et)) (hz : (P.info? et).bind (·.zero) = some (ve.v z))
    (hx : ev F x = some (.mp b)) (hH : H[b]? = some (mpO ke ve l ck)) (hi : ev F ix = some xk) (hxk : ∀ ρ H, xk.den ρ H = ke.v k) : Rd P N E o F H (.t [ve.x ((mget l k).getD z), .c (.s (.bool (mget l k).isSome))]) := fun S ρ a w hR => by
 obtain ⟨h1, _⟩ := hR.ev hx
 have h2 := (hR.ev hi).1
 rw [hxk] at h2
 obtain ⟨B, ms, g1, g2, g3⟩ := mp_own hR.hp hH
 simp only [AV.den, g1] at h1
 obtain ⟨r, f1, f2, f3⟩ := hk.find ms.toList (l.map (·.2.1)) k w (by rw [g3, List.map_map, List.map_map]; rfl)
 obtain ⟨q1, q2⟩ := kpos_mget (a := k) l 0
 have hzr : (zeroValue et).run P w = .ok (ve.v z) w := by
  unfold zeroValue typeInfo
  cases hi : P.info? et with
  | none => rw [hi] at hz; cases hz
  | some i => rw [hi] at hz; simp only [Option.bind_some] at hz; simp [hi, hz]
 refine ⟨?_, .t fun y hy => ?_⟩
 ·simp only [AV.den, AV.denL, ve.den, CV.den]
  cases hp : kpos k (l.map (·.2.1)) 0 with
  | none =>
   rw [f2 hp] at f1
   rw [q1 hp]
   simp only [execOp, ho, h1, h2, Instr.lookup, Sem.run_bind, zE1 ht, Result.andThen_ok, mp_get g2, Sem.run_pure, hk.chk, f1, hzr]
   rfl
  | some j =>
   obtain ⟨m, f4, f5⟩ := f3 j hp
   obtain ⟨_, e, q3, q4, _⟩ := q2 j hp
   rw [f5] at f1
   have hm : m.val = ve.v e.2.2 := by
    rw [g3, List.getElem?_map] at f4
    rw [Nat.sub_zero] at q3
    rw [q3] at f4
    simp only [Option.map_some, Option.some.injEq] at f4
    rw [← f4]
   rw [q4]
   simp only [execOp, ho, h1, h2, Instr.lookup, Sem.run_bind, zE1 ht, Result.andThen_ok, mp_get g2, Sem.run_pure, hk.chk, f1, hm]
   rfl
 ·simp only [List.mem_cons, List.not_mem_nil, or_false] at hy
  rcases hy with rfl | rfl
  ·exact ve.wf _ _ _ _ _
  ·exact .c (.s _)
theorem ef_mapset {α β : Type} [DecidableEq α] {ke : Enc α} {ve : Enc β} {t kt et : TypeId} {x ix y : Operand} {b ck : Nat} {l : List (Nat × α × β)} {k : α} {xk yv : AV} {z : β} (hk : KeyOk P kt ke) (ho : o.op = .mapUpdate t x ix y) (hd : o.dst = none) (ht : P.underlying t = some (.map kt et))
    (hx : ev F x = some (.mp b)) (hH : H[b]? = some (mpO ke ve l ck)) (hi : ev F ix = some xk) (hxk : ∀ ρ H, xk.den ρ H = ke.v k) (hy : ev F y = some yv) (hyv : ∀ ρ H, yv.den ρ H = ve.v z) :
    Ef P N E o F H fun F' H' => F' = F ∧ H' = H.set b (mpO ke ve (mset ck k z l) (mclk ck k l)) := fun S ρ a w hR => by
 obtain ⟨h1, _⟩ := hR.ev hx
 have h2 := (hR.ev hi).1
 have h3 := (hR.ev hy).1
 rw [hxk] at h2
 rw [hyv] at h3
 obtain ⟨B, ms, g1, g2, g3⟩ := mp_own hR.hp hH
 simp only [AV.den, g1] at h1
 obtain ⟨r, f1, f2, f3⟩ := hk.find ms.toList (l.map (·.2.1)) k w (by rw [g3, List.map_map, List.map_map]; rfl)
 obtain ⟨q1, q2⟩ := kpos_mget (a := k) l 0
 have fin : ∀ ms' : Array MapEntry, ms'.toList = (mset ck k z l).map (fun e => (⟨ke.v e.2.1, ve.v e.2.2, e.1⟩ : MapEntry)) → (execOp a.eval o).run P w = .ok .skip (zr w B (.map ms' (mclk ck k l))) → effO P o a w fun a' w' => ∃ S' ρ' F' H', (F' = F ∧ H' = H.set b (mpO ke ve (mset ck k z l) (mclk ck k l))) ∧ R N E S' ρ' F' H' a' w' := fun ms' hms hex => by
  unfold effO
  rw [hex]
  refine ⟨S, ρ, _, _, ⟨rfl, rfl⟩, ?_⟩
  rw [hd]
  refine R.set (ob := mpO ke ve l ck) hR hH g1 rfl rfl (fun _ => rfl) (zr1 _ _) ⟨B, ms', rfl, zU1 g2, by rw [hms, List.map_map]; rfl, fun e he => ?_⟩
  obtain ⟨e', _, rfl⟩ := List.mem_map.1 he
  exact .s _
 cases hp : kpos k (l.map (·.2.1)) 0 with
 | none =>
  rw [f2 hp] at f1
  have hn := q1 hp
  refine fin (ms.push ⟨ke.v k, ve.v z, ck⟩) ?_ ?_
  ·rw [mset_none hn, Array.toList_push, g3, List.map_append]; rfl
  ·have : mclk ck k l = ck + 1 := by unfold mclk; rw [hn]; rfl
   rw [this]
   simp only [execOp, ho, h1, h2, h3, Instr.mapUpdate, Sem.run_bind, zE1 ht, Result.andThen_ok, mp_get g2, hk.chk, f1, mp_put g2, Sem.run_pure]
 | some j =>
  obtain ⟨m, f4, f5⟩ := f3 j hp
  obtain ⟨_, e, q3, q4, q5⟩ := q2 j hp
  rw [f5] at f1
  rw [Nat.sub_zero] at q3
  have hmk : m.key = ke.v k := by
   rw [g3, List.getElem?_map, q3] at f4
   simp only [Option.map_some, Option.some.injEq] at f4
   rw [← f4, ← q5]
  have hst : (Instr.keyThatStays (((ms[j]?).map (·.key)).getD (ke.v k)) (ke.v k)).run P w = .ok (ke.v k) w := by
   rw [← Array.getElem?_toList, f4]
   simp only [Option.map_some, Option.getD_some, hmk]
   unfold Instr.keyThatStays
   rw [if_pos (hk.bits k)]
   rfl
  refine fin (ms.modify j fun e => { e with key := ke.v k, val := ve.v z }) ?_ ?_
  ·obtain ⟨_, q6⟩ := mset_some (ck := ck) (b := z) hp
   rw [q6, Array.toList_modify, g3, Nat.sub_zero]
   refine List.ext_getElem? fun i => ?_
   simp only [List.getElem?_modify, List.getElem?_map]
   cases hl : l[i]? with
   | none => simp
   | some e2 => by_cases hij : j = i <;> simp [hij]
  ·have : mclk ck k l = ck := by unfold mclk; rw [q4]; rfl
   rw [this]
   simp only [execOp, ho, h1, h2, h3, Instr.mapUpdate, Sem.run_bind, zE1 ht, Result.andThen_ok, mp_get g2, hk.chk, f1, hst, mp_put g2, Sem.run_pure]
theorem ef_range {α β : Type} {ke : Enc α} {ve : Enc β} {t kt et : TypeId} {x : Operand} {b ck d : Nat} {l : List (Nat × α × β)} (ho : o.op = .range t x) (hd : o.dst = some d) (hN : d < N) (ht : P.underlying t = some (.map kt et)) (hx : ev F x = some (.mp b)) (hH : H[b]? = some (mpO ke ve l ck)) :
    Ef P N E o F H fun F' H' => F' = (d, .p H.length 0 0) :: F ∧ H' = H ++ [.itr b ck [] ck] :=
 ef_of hd hN ⟨rfl, rfl⟩ fun S ρ a w hR => by
  obtain ⟨h1, h2⟩ := hR.ev hx
  obtain ⟨B, ms, g1, g2, g3⟩ := mp_own hR.hp hH
  simp only [AV.den, g1] at h1
  have hblt : b < H.length := (List.getElem?_eq_some_iff.1 hH).1
  refine ⟨S, ρ ++ [some w.heap.size], w.alloc (.mapIter (some B) ck #[] ck), ?_, ?_, wf_snoc_p hR.hp _⟩
  ·rw [den_snoc_p hR.hp]
   simp only [execOp, ho, h1, Instr.range, Sem.run_bind, zE1 ht, Result.andThen_ok, mp_get g2, Sem.run_pure, run_newObj, World.alloc_eq]
  ·have hat : atB (ρ ++ [some w.heap.size]) b = some B := by rw [zt, if_neg (by rw [hR.hp.len]; omega)]; exact g1
   exact hR.newO _ (.itr b ck [] ck) ⟨_, rfl, by rw [za2, hat], by simp; omega, by rw [hat]; rfl⟩
theorem ef_next {α β : Type} {ke : Enc α} {ve : Enc β} {x : Operand} {bi b ck since last d : Nat} {seen : List Nat} {l : List (Nat × α × β)} (ho : o.op = .next x false) (hd : o.dst = some d) (hN : d < N) (hx : ev F x = some (.p bi 0 0)) (hi : H[bi]? = some (.itr b since seen last)) (hH : H[b]? = some (mpO ke ve l ck))
    (hs : ∀ e ∈ l, e.1 < since) (hl : since ≤ last) :
    Ef P N E o F H fun F' H' => (∃ e ∈ l, e.1 ∉ seen ∧ F' = (d, .t [.c (.s (.bool true)), ke.x e.2.1, ve.x e.2.2]) :: F ∧ H' = H.set bi (.itr b since (seen ++ [e.1]) ck)) ∨ ((∀ e ∈ l, e.1 ∈ seen) ∧ F' = (d, .t [.c (.s (.bool false))]) :: F ∧ H' = H) := fun S ρ a w hR => by
 obtain ⟨h1, _⟩ := hR.ev hx
 obtain ⟨B, ms, g1, g2, g3⟩ := mp_own hR.hp hH
 obtain ⟨Bi, i1, i2, i3, i4⟩ := hR.hp.blk bi _ hi
 have hz : szAt H bi = 0 := by unfold szAt; rw [hi]; rfl
 simp only [AV.den, i1, hz, Option.map_some, Nat.mul_zero, Nat.add_zero, Nat.zero_add] at h1
 rw [g1] at i2
 have hold : ∀ x ∈ ms.toList, x.born < since := fun x hx => by
  rw [g3] at hx
  obtain ⟨e, he, rfl⟩ := List.mem_map.1 hx
  exact hs e he
 unfold effO
 rcases run_next_at (P := P) w o.type Bi B since last seen.toArray ms ck i2 g2 hold hl with ⟨q0, hrun⟩ | ⟨e, he, w1, hw1, hrun⟩
 ·have hex : (execOp a.eval o).run P w = .ok (.value (.tuple #[.bool false])) w := by
   simp only [execOp, ho, h1, Sem.run_bind, hrun, Result.andThen_ok, Sem.run_pure]
  rw [hex]
  refine ⟨S, ρ, _, _, .inr ⟨fun e he => ?_, rfl, rfl⟩, ?_⟩
  ·have hm : (⟨ke.v e.2.1, ve.v e.2.2, e.1⟩ : MapEntry) ∈ ms.toList := by rw [g3]; exact List.mem_map.2 ⟨e, he, rfl⟩
   have h0 : leftOf ms seen.toArray = #[] := Array.eq_empty_of_size_eq_zero q0
   unfold leftOf at h0
   rw [Array.filter_eq_empty_iff] at h0
   have := h0 _ (Array.mem_toList_iff.1 hm)
   simpa using this
  ·rw [hd]
   exact hR.put (x := .t [.c (.s (.bool false))]) hN (.t fun y hy => by rw [List.mem_singleton.1 hy]; exact .c (.s _))
 ·have hex : (execOp a.eval o).run P w = .ok (.value (.tuple #[.bool true, e.key, e.val])) (zr w1 Bi (.mapIter (some B) since (seen.toArray.push e.born) ck)) := by
   simp only [execOp, ho, h1, Sem.run_bind, hrun, Result.andThen_ok, Sem.run_pure]
   rfl
  rw [hex]
  have he' : e ∈ ms.toList ∧ e.born ∉ seen := by
   unfold leftOf at he
   simpa using he
  obtain ⟨e2, he2, rfl⟩ : ∃ e2 ∈ l, (⟨ke.v e2.2.1, ve.v e2.2.2, e2.1⟩ : MapEntry) = e := by
   have := he'.1
   rw [g3] at this
   obtain ⟨e2, q1, q2⟩ := List.mem_map.1 this
   exact ⟨e2, q1, q2⟩
  have hR1 : R N E S ρ F H a w1 := by rcases hw1 with rfl | rfl <;> first | exact hR | exact hR.drew
  have hi1 : w1.heap[Bi]? = some (.mapIter (some B) since seen.toArray last) := by rcases hw1 with rfl | rfl <;> exact i2
  refine ⟨S, ρ, _, _, .inl ⟨e2, he2, he'.2, rfl, rfl⟩, ?_⟩
  rw [hd]
  have hset := R.set (ob := .itr b since seen last) (ob' := .itr b since (seen ++ [e2.1]) ck) (cob := .mapIter (some B) since (seen.toArray.push e2.1) ck) hR1 hi i1 rfl rfl (fun h => absurd rfl h) (zr1 _ _) ⟨Bi, rfl, by rw [zU1 hi1, g1]; simp, by simpa using i3, i4⟩
  have := hset.put (d := d) (x := .t [.c (.s (.bool true)), ke.x e2.2.1, ve.x e2.2.2]) hN (.t fun y hy => by
   simp only [List.mem_cons, List.not_mem_nil, or_false] at hy
   rcases hy with rfl | rfl | rfl
   ·exact .c (.s _)
   ·exact ke.wf _ _ _ _ _
   ·exact ve.wf _ _ _ _ _)
  simpa [AV.den, AV.denL, ke.den, ve.den, CV.den] using this
theorem rd_entry {α β : Type} {ke : Enc α} {ve : Enc β} {x : Operand} {bi b ck since : Nat} {seen : List Nat} {l : List (Nat × α × β)} {e : Nat × α × β} (ho : o.op = .entry x) (hx : ev F x = some (.p bi 0 0)) (hi : H[bi]? = some (.itr b since (seen ++ [e.1]) ck)) (hH : H[b]? = some (mpO ke ve l ck)) (he : e ∈ l) (hn : (l.map (·.1)).Nodup) :
    Rd P N E o F H (.t [ke.x e.2.1, ve.x e.2.2]) := fun S ρ a w hR => by
 obtain ⟨h1, _⟩ := hR.ev hx
 obtain ⟨B, ms, g1, g2, g3⟩ := mp_own hR.hp hH
 obtain ⟨Bi, i1, i2, i3, i4⟩ := hR.hp.blk bi _ hi
 have hz : szAt H bi = 0 := by unfold szAt; rw [hi]; rfl
 simp only [AV.den, i1, hz, Option.map_some, Nat.mul_zero, Nat.add_zero, Nat.zero_add] at h1
 rw [g1] at i2
 have hrun := run_entry_at (P := P) w Bi B since seen.toArray ms ck ⟨ke.v e.2.1, ve.v e.2.2, e.1⟩ (by rw [i2]; simp) g2 (by rw [g3]; exact List.mem_map.2 ⟨e, he, rfl⟩) (by rw [g3, List.map_map]; exact hn)
 refine ⟨?_, .t fun y hy => ?_⟩
 ·simp only [execOp, ho, h1, Sem.run_bind, hrun, Result.andThen_ok, Sem.run_pure, AV.den, AV.denL, ke.den, ve.den]
 ·simp only [List.mem_cons, List.not_mem_nil, or_false] at hy
  rcases hy with rfl | rfl
  ·exact ke.wf _ _ _ _ _
  ·exact ve.wf _ _ _ _ _
end
end Go.Proofs.YtfilfijammemfaaGreatDoor
