/- The reference's faults of layers and styles; first, errs, when, by value. -/
import Derived.Test.YtniolldgidgffaaGreatDoorQbc
import Derived.Test.YtniolldgidgffaaGreatDoorQbe
import Derived.Test.YtniolldgidgffaaGreatDoorQbi
import Derived.Test.YtniolldgidgffaaGreatDoorQba
set_option linter.unusedSimpArgs false
set_option linter.unusedVariables false
/- Walls are shells: plain. -/
namespace Go.Proofs.YtniolldgidgffaaGreatDoor
theorem celN_self {c : Cel} (h : RCel c) : celN c.st (covL c) = c := by
 by_cases hr : c.rows = []
 ·have e : covL c = [] := by unfold covL; rw [hr]; rfl
  obtain ⟨h1, h2⟩ := h.emp hr
  rw [celN, if_pos e]
  obtain ⟨st, x, y, rows⟩ := c
  simp only at h1 h2 hr
  rw [h1, h2, hr]
 have hs := span_tight (fun r hr => (h.row r hr).1) hr
 rw [h.tight hr] at hs
 unfold spanB at hs
 simp only [Bool.and_eq_true, decide_eq_true_iff] at hs
 obtain ⟨⟨⟨⟨s1, s2⟩, s3⟩, s4⟩, s5⟩ := hs
 obtain ⟨a1, a2⟩ := h.at
 have hrow := h.row
 rw [celN, if_neg s1, s2, s3, s4, s5, a1, a2]
 have e1 : (c.y.tdiv c.st + (c.rows.length : Int) - 1 - c.y.tdiv c.st + 1).toNat = c.rows.length := by omega
 have e2 : (c.x.tdiv c.st + (wid c.rows : Int) - 1 - c.x.tdiv c.st + 1).toNat = wid c.rows := by omega
 rw [e1, e2]
 have e3 : ((List.range c.rows.length).map fun i => rowB (covL c) (c.x.tdiv c.st) (c.y.tdiv c.st + (i : Nat)) (wid c.rows)) = c.rows := by
  apply List.ext_getElem
  ·simp
  ·intro i h1 h2
   rw [List.getElem_map, List.getElem_range]
   obtain ⟨w1, w2⟩ := hrow c.rows[i] (List.getElem_mem h2)
   apply List.ext_getElem
   ·rw [rowB_len, w1]
   ·intro k k1 k2
    simp only [rowB, List.getElem_map, List.getElem_range]
    have hm : (c.x.tdiv c.st + (k : Nat), c.y.tdiv c.st + (i : Nat)) ∈ covL c ↔ c.rows[i][k] = 35 := by
     unfold covL
     rw [hitC_mem]
     constructor
     ·rintro ⟨i', k', r, q1, q2, q3⟩
      obtain ⟨q4, q5⟩ := Prod.mk.inj q3
      obtain rfl : k = k' := by omega
      obtain rfl : i = i' := by omega
      obtain ⟨_, q6⟩ := List.getElem?_eq_some_iff.1 q1
      subst q6
      exact (List.getElem?_eq_some_iff.1 q2).2
     ·intro q
      exact ⟨i, k, c.rows[i], List.getElem?_eq_getElem h2, by rw [List.getElem?_eq_getElem k2, q], rfl⟩
    have hb : c.rows[i][k] = 35 ∨ c.rows[i][k] = 46 := by
     unfold okB2 at w2
     have := List.all_eq_true.1 w2 _ (List.getElem_mem k2)
     simpa using this
    by_cases e : c.rows[i][k] = 35
    ·rw [if_pos (hm.2 e), e]
    ·rw [if_neg (fun q => e (hm.1 q))]
     exact (hb.resolve_left e).symm
 rw [e3]
theorem shq_mem {n : Nat} {L : List Spot} {q : Spot} : q ∈ shrL n L ↔ q ∈ L ∧ ∀ p : Spot, q.1 - n ≤ p.1 → p.1 ≤ q.1 + n → q.2 - n ≤ p.2 → p.2 ≤ q.2 + n → p ∈ L := by
 unfold shrL
 rw [List.mem_filter, ← shB_eq, shB, Bool.not_eq_true', ← Bool.not_eq_true, List.any_eq_true]
 simp only [Bool.not_eq_true', decide_eq_false_iff_not, not_exists, not_and, Classical.not_not, abt_mem]
 constructor
 ·rintro ⟨h1, h2⟩
  exact ⟨h1, fun p a b c d => h2 p (by omega)⟩
 ·rintro ⟨h1, h2⟩
  exact ⟨h1, fun p h => h2 p (by omega) (by omega) (by omega) (by omega)⟩
theorem shq_sub {n : Nat} {L : List Spot} {q : Spot} (h : q ∈ shrL (n + 1) L) : q ∈ shrL n L := by
 obtain ⟨h1, h2⟩ := shq_mem.1 h
 exact shq_mem.2 ⟨h1, fun p a b c d => h2 p (by omega) (by omega) (by omega) (by omega)⟩
theorem shq_0 {L : List Spot} {q : Spot} : q ∈ shrL 0 L ↔ q ∈ L := by
 rw [shq_mem]
 constructor
 ·exact fun h => h.1
 ·intro h
  refine ⟨h, fun p a b c d => ?_⟩
  have e : p = q := by ext <;> omega
  rw [e]; exact h
theorem shq_in {n : Nat} {L : List Spot} {q : Spot} (h : q ∈ shrL n L) : q ∈ L := (shq_mem.1 h).1
theorem normC_is {c : Cel} (h : NCel c) {L S : List Spot} (hS : ∀ p ∈ S, p ∈ covL c) (e : ∀ p, p ∈ L ↔ p ∈ S) : normC c.st L = (celN c.st S, 0) := by
 rw [normC_mem e]; exact (normC_ok h hS).1
theorem wal_mem {c : Cel} (h : NCel c) {k : Nat} {q : Spot} : q ∈ covL (walC c k) ↔ q ∈ shrL k (covL c) ∧ q ∉ shrL (k + 1) (covL c) := by
 have hst : 0 < c.st := by have := h.r.st; omega
 unfold walC
 rw [covL_celN hst, List.mem_filter, Bool.not_eq_true', decide_eq_false_iff_not]
theorem wal_r {c : Cel} (h : NCel c) (k : Nat) : RCel (walC c k) := (normC_ok h fun p hp => shq_in (List.mem_filter.1 hp).1).2
theorem shq_r {c : Cel} (h : NCel c) (k : Nat) : RCel (celN c.st (shrL k (covL c))) := (normC_ok h fun _ hp => shq_in hp).2
theorem wal_un {c : Cel} (h : NCel c) (k : Nat) : normC c.st (covL (walC c k) ++ covL (celN c.st (shrL (k + 1) (covL c)))) = (celN c.st (shrL k (covL c)), 0) := by
 have hst : 0 < c.st := by have := h.r.st; omega
 refine normC_is h (fun _ hp => shq_in hp) fun p => ?_
 rw [List.mem_append, wal_mem h, covL_celN hst]
 constructor
 ·rintro (q | q)
  ·exact q.1
  ·exact shq_sub q
 ·intro q
  by_cases e : p ∈ shrL (k + 1) (covL c)
  ·exact .inr e
  ·exact .inl ⟨q, e⟩
theorem wal_bot {c : Cel} (h : NCel c) (k : Nat) : normC c.st (botL (covL (walC c k)) (covL (celN c.st (shrL (k + 1) (covL c))))) = (⟨c.st, 0, 0, []⟩, 0) := by
 have hst : 0 < c.st := by have := h.r.st; omega
 have e : botL (covL (walC c k)) (covL (celN c.st (shrL (k + 1) (covL c)))) = [] := List.eq_nil_iff_forall_not_mem.2 fun p hp => by
  obtain ⟨h1, h2⟩ := List.mem_filter.1 hp
  rw [decide_eq_true_iff, covL_celN hst] at h2
  exact ((wal_mem h).1 h1).2 h2
 rw [e]; rfl
def upL (n k : Nat) (L : List Spot) : List Spot := L.filter fun q => decide (q ∈ shrL n L) || (List.range k).any fun j => decide (q ∈ shrL j L) && !decide (q ∈ shrL (j + 1) L)
theorem up_mem {n k : Nat} {L : List Spot} {q : Spot} : q ∈ upL n k L ↔ q ∈ shrL n L ∨ ∃ j, j < k ∧ q ∈ shrL j L ∧ q ∉ shrL (j + 1) L := by
 unfold upL
 rw [List.mem_filter, Bool.or_eq_true, decide_eq_true_iff, List.any_eq_true]
 simp only [Bool.and_eq_true, decide_eq_true_iff, Bool.not_eq_true', decide_eq_false_iff_not, List.mem_range]
 constructor
 ·exact fun h => h.2
 ·rintro (h | ⟨j, h⟩)
  ·exact ⟨shq_in h, .inl h⟩
  ·exact ⟨shq_in h.2.1, .inr ⟨j, h⟩⟩
theorem up_0 {c : Cel} {n : Nat} : celN c.st (upL n 0 (covL c)) = celN c.st (shrL n (covL c)) := celN_mem fun p => by rw [up_mem]; simp
theorem up_in {c : Cel} {n k : Nat} : ∀ p ∈ upL n k (covL c), p ∈ covL c := fun _ hp => (List.mem_filter.1 hp).1
theorem up_r {c : Cel} (h : NCel c) (n k : Nat) : RCel (celN c.st (upL n k (covL c))) := (normC_ok h up_in).2
theorem up_un {c : Cel} (h : NCel c) (n k : Nat) : normC c.st (covL (celN c.st (upL n k (covL c))) ++ covL (walC c k)) = (celN c.st (upL n (k + 1) (covL c)), 0) := by
 have hst : 0 < c.st := by have := h.r.st; omega
 refine normC_is h up_in fun p => ?_
 rw [List.mem_append, wal_mem h, covL_celN hst, up_mem, up_mem]
 constructor
 ·rintro ((q | ⟨j, q1, q2⟩) | q)
  ·exact .inl q
  ·exact .inr ⟨j, by omega, q2⟩
  ·exact .inr ⟨k, by omega, q⟩
 ·rintro (q | ⟨j, q1, q2⟩)
  ·exact .inl (.inl q)
  ·by_cases e : j = k
   ·subst e; exact .inr q2
   ·exact .inl (.inr ⟨j, by omega, q2⟩)
theorem up_all {n : Nat} {L : List Spot} {q : Spot} (hq : q ∈ L) : ∀ m : Nat, q ∈ shrL m L ∨ ∃ j, j < m ∧ q ∈ shrL j L ∧ q ∉ shrL (j + 1) L
 | 0 => .inl (shq_0.2 hq)
 | m + 1 => by
  rcases up_all (n := n) hq m with h | ⟨j, h1, h2⟩
  ·by_cases e : q ∈ shrL (m + 1) L
   ·exact .inl e
   ·exact .inr ⟨m, by omega, h, e⟩
  ·exact .inr ⟨j, by omega, h2⟩
theorem up_n {c : Cel} (h : NCel c) (n : Nat) : celN c.st (upL n n (covL c)) = c := by
 rw [celN_mem (L' := covL c) (fun p => ⟨up_in p, fun hp => up_mem.2 (up_all (n := n) hp n)⟩), celN_self h.r]
end Go.Proofs.YtniolldgidgffaaGreatDoor

/- The union of cells, by value: Union. -/
-- NEWM
namespace Go.Proofs.YtniolldgidgffaaGreatDoor
open Go Go.RowKit
set_option maxRecDepth 100000
set_option maxHeartbeats 2000000 in
theorem each_set (g : Grd) (pv v : Value) (hg : GOk g) (st x y : Int) (w h : Nat) (on : List Bool) (hon : on.length = w * h) (hw : w ≤ 1000) (hh : h ≤ 1000) (hx : -10000000 ≤ x ∧ x ≤ 10000000) (hy : -10000000 ≤ y ∧ y ≤ 10000000) (hin : ∀ p ∈ covG g, inBox x y w h p) : ACallsX true Tryz.prog 95 [gV pv v g, .f (.via 0 #[] 122 false) [.p 0 0 0]] [gB st x y w h 1 (w * h), gArr (w * h) on] fun u H => u = .t [] ∧ H = [gB st x y w h 1 (w * h), gArr (w * h) (putG x y w on (covG g))] := by
 have hn := hg.n
 have hgx := hg.x
 have hgy := hg.y
 have hnb : w * h ≤ 1000000 := Nat.le_trans (Nat.mul_le_mul hw hh) (by decide)
 have eo : (oR g.on).length = g.on.length := by simp
 refine acallsx_of true (N := 42) Tryz.func95 rfl rfl (by simp) fun E hE hP => ?_
 refine WA ?_
 refine aw_loopw (fun m F H => ∃ k : Nat, m + k = g.on.length ∧ F = [(0, gV pv v g), (1, .f (.via 0 #[] 122 false) [.p 0 0 0]), (9, .c (.r v (oR g.on))), (10, .c (I (oR g.on).length)), (11, .c (I k))] ∧ H = [gB st x y w h 1 (w * h), gArr (w * h) (putG x y w on (covK g k))]) ?_ ?_
 ·refine wk_of [some 0, some 1] (fun _ => [(0, gV pv v g), (1, .f (.via 0 #[] 122 false) [.p 0 0 0]), (9, .c (.r v (oR g.on))), (10, .c (I (oR g.on).length)), (11, .c (I (0 : Nat)))]) (fun _ => [gB st x y w h 1 (w * h), gArr (w * h) on]) (by decide) (ZNL hE) ZCF ZCH (fun _ => ?_)
  exact ⟨g.on.length, 0, by omega, rfl, rfl⟩
 rintro m F H ⟨k, hk, rfl, rfl⟩
 refine WA ?_
 refine aw_if rfl (fun hlt => ?_) (fun hge => ?_)
 ·have hkn : k < g.on.length := by omega
  obtain ⟨b, hb⟩ : ∃ b, g.on[k]? = some b := ⟨_, List.getElem?_eq_getElem hkn⟩
  have hrow : (oR g.on)[k]? = some [B b] := by rw [List.getElem?_map, hb]; rfl
  obtain ⟨w1, ⟨w2, w3⟩, w4, w5⟩ := each_at hg hkn
  have hnx := covK_next hb
  have hol : (putG x y w on (covK g k)).length = w * h := by rw [putG_len, hon]
  have hnext : putG x y w on (covK g (k + 1)) = if b = true then (putG x y w on (covK g k)).set (ixG x y w (spt g k)) true else putG x y w on (covK g k) := by
   rw [hnx]
   cases b with
   | true => rw [if_pos rfl, if_pos rfl, putG_snoc]
   | false => rw [if_neg (by simp), if_neg (by simp), List.append_nil]
  generalize hon1e : putG x y w on (covK g k) = on1 at *
  refine WA ?_
  refine WA ?_
  cases b with
  | true =>
   rw [if_pos rfl] at hnext
   have hsp : spt g k ∈ covG g := covG_mem.2 ⟨k, hb, rfl⟩
   have hbx := hin _ hsp
   rw [← spt_eq] at hnext hbx
   obtain ⟨i1, i2, _⟩ := ix_box hbx
   have hbx2 := hbx
   unfold inBox at hbx2
   simp only at hbx2 i1
   refine aw_cond_t rfl ?_
   refine ZZ ?_
   refine aw_regionT [(0, none), (1, none), (2, none), (3, none), (4, none), (5, none), (6, none), (7, none), (8, none), (9, none), (10, none), (11, none), (12, none), (13, none), (14, none), (15, none), (16, none), (17, none), (18, none), (19, none), (20, none), (21, none), (22, none), (23, some [])] hMixed (by kernel_rfl) ?_
   refine WP ?_
   refine at_ef rfl rfl (ef_callp [0, 1] (fun _ => [gB st x y w h 1 (w * h), gArr (w * h) on1]) false (fun _ => set_v st x y w h on1 (w * h) (g.x + (k : Int) % (g.w : Int)) (g.y + (k : Int) / (g.w : Int)) _ hol i1 i2 hnb (by omega) (by omega) hx hy) rfl (.bnd rfl) rfl (by decide) (by kernel_rfl) rfl (fun _ => .cons (.p rfl) (.cons (.c rfl) (.cons (.c rfl) .nil))) (by decide) ZCH (by simp)) ?_
   rintro F1 H1 ⟨_, _, _, _, ⟨rfl, rfl⟩, hF, hH⟩
   rw [killF_nil] at hF; (refine NSU hF hH ?_; clear hF hH; rintro rfl rfl)
   refine ⟨ag_none, ?_⟩
   refine WQ ?_
   refine WA ?_
   refine wk_of [some 0, some 1] (fun _ => [(0, gV pv v g), (1, .f (.via 0 #[] 122 false) [.p 0 0 0]), (9, .c (.r v (oR g.on))), (10, .c (I (oR g.on).length)), (11, .c (I (k + 1 : Nat)))]) (fun _ => [gB st x y w h 1 (w * h), gArr (w * h) (on1.set (ixG x y w (g.x + (k : Int) % (g.w : Int), g.y + (k : Int) / (g.w : Int))) true)]) (by decide) (ZNL hE) ZCF ZCH (fun _ => ?_)
   exact ⟨m - 1, by omega, k + 1, by omega, rfl, by rw [hnext]⟩
  | false =>
   rw [if_neg (by simp)] at hnext
   refine aw_cond_f rfl ?_
   refine ZZ ?_
   refine WA ?_
   refine wk_of [some 0, some 1] (fun _ => [(0, gV pv v g), (1, .f (.via 0 #[] 122 false) [.p 0 0 0]), (9, .c (.r v (oR g.on))), (10, .c (I (oR g.on).length)), (11, .c (I (k + 1 : Nat)))]) (fun _ => [gB st x y w h 1 (w * h), gArr (w * h) on1]) (by decide) (ZNL hE) ZCF ZCH (fun _ => ?_)
   exact ⟨m - 1, by omega, k + 1, by omega, rfl, by rw [hnext]⟩
 obtain rfl : k = g.on.length := by omega
 rw [show covK g g.on.length = covG g from rfl]
 refine ZZ ?_
 exact aret_0 [some 0, some 1] (fun _ => [gB st x y w h 1 (w * h), gArr (w * h) (putG x y w on (covG g))]) (.inr rfl) rfl (by decide) (ZNK rfl) ZCH (fun _ => ⟨rfl, rfl⟩)
theorem grd_bd {c : Cel} (h : RCel c) : (grdOf c).w ≤ 200 ∧ (grdOf c).h ≤ 200 ∧ ((grdOf c).w ≠ 0 → 0 < (grdOf c).h) := by
 have h1 := h.w
 have h2 := h.h
 unfold grdOf
 split
 ·simp
 ·rename_i e
  refine ⟨h1, h2, fun _ => ?_⟩
  cases hr : c.rows with
  | nil => exact absurd hr e
  | cons => simp
theorem box_in {c : Cel} (h : RCel c) (hw : (grdOf c).w ≠ 0) {p : Spot} (hp : p ∈ covG (grdOf c)) : (grdOf c).x ≤ p.1 ∧ p.1 < (grdOf c).x + (grdOf c).w ∧ (grdOf c).y ≤ p.2 ∧ p.2 < (grdOf c).y + (grdOf c).h := by
 obtain ⟨_, e1, e2, e3, e4⟩ := grd_tight h hw
 obtain ⟨b1, b2, b3, b4⟩ := x0_le hp
 omega
theorem un_l {ca cb : Cel} (ha : RCel ca) (hb : RCel cb) (hs : ca.st = cb.st) (hw : (grdOf ca).w = 0) : normC (grdOf cb).st (covG (grdOf cb)) = normC ca.st (covL ca ++ covL cb) := by
 rw [grdOf_st, hs]
 have e := grd_nil ha hw
 refine normC_mem fun q => ?_
 rw [List.mem_append, ← grdOf_cov ha, ← grdOf_cov hb, e]
 simp
theorem un_r {ca cb : Cel} (ha : RCel ca) (hb : RCel cb) (hw : (grdOf cb).w = 0) : normC (grdOf ca).st (covG (grdOf ca)) = normC ca.st (covL ca ++ covL cb) := by
 rw [grdOf_st]
 have e := grd_nil hb hw
 refine normC_mem fun q => ?_
 rw [List.mem_append, ← grdOf_cov ha, ← grdOf_cov hb, e]
 simp
theorem un_x {ca cb : Cel} (ha : RCel ca) (hb : RCel cb) (h1 : (grdOf ca).w ≠ 0) (h2 : (grdOf cb).w ≠ 0) : covL ca ++ covL cb ≠ [] ∧ x0 (covL ca ++ covL cb) = min (grdOf ca).x (grdOf cb).x ∧ x1 (covL ca ++ covL cb) = max ((grdOf ca).x + ((grdOf ca).w : Int)) ((grdOf cb).x + ((grdOf cb).w : Int)) - 1 ∧ y0 (covL ca ++ covL cb) = min (grdOf ca).y (grdOf cb).y ∧ y1 (covL ca ++ covL cb) = max ((grdOf ca).y + ((grdOf ca).h : Int)) ((grdOf cb).y + ((grdOf cb).h : Int)) - 1 := by
 obtain ⟨a0, a1, a2, a3, a4⟩ := grd_tight ha h1
 obtain ⟨b0, b1, b2, b3, b4⟩ := grd_tight hb h2
 have hm : ∀ p, p ∈ covL ca ++ covL cb ↔ p ∈ covG (grdOf ca) ++ covG (grdOf cb) := fun p => by rw [List.mem_append, List.mem_append, grdOf_cov ha, grdOf_cov hb]
 obtain ⟨c1, c2, c3, c4⟩ := x0_mem hm
 obtain ⟨d1, d2, d3, d4⟩ := x0_app a0 b0
 refine ⟨fun e => ?_, by rw [c1, d1, a1, b1], by rw [c2, d2, a2, b2]; omega, by rw [c3, d3, a3, b3], by rw [c4, d4, a4, b4]; omega⟩
 obtain ⟨p, hp⟩ : ∃ p, p ∈ covG (grdOf ca) := List.exists_mem_of_ne_nil _ a0
 have := (hm p).2 (List.mem_append_left _ hp)
 rw [e] at this; cases this
theorem un_e {st : Int} {L : List Spot} (h0 : L ≠ []) (h : 199 < x1 L - x0 L ∨ 199 < y1 L - y0 L) : normC st L = (⟨0, 0, 0, []⟩, 12) := by rw [normC, if_neg h0, if_pos h]
theorem un_g {ca cb : Cel} (ha : RCel ca) (hb : RCel cb) {X Y : Int} {W T : Nat} (h1 : ∀ p ∈ covG (grdOf ca), inBox X Y W T p) (h2 : ∀ p ∈ covG (grdOf cb), inBox X Y W T p) : normC (unG ca.st X Y W T (covG (grdOf ca)) (covG (grdOf cb))).st (covG (unG ca.st X Y W T (covG (grdOf ca)) (covG (grdOf cb)))) = normC ca.st (covL ca ++ covL cb) :=
 normC_mem fun q => by rw [unG_cov h1 h2, List.mem_append, List.mem_append, grdOf_cov ha, grdOf_cov hb]
set_option maxHeartbeats 2000000 in
theorem union_v (va vb : Value) (ca cb : Cel) (ha : RCel ca) (hb : RCel cb) (hs : ca.st = cb.st) : ACalls Tryz.prog 49 [celA va ca, celA vb cb] [] fun u H => ∃ v', u = .t [celA v' (normC ca.st (covL ca ++ covL cb)).1, .c (I (normC ca.st (covL ca ++ covL cb)).2)] ∧ H = [] := by
 have hst := ha.st
 have hsg : 0 ≤ (grdOf ca).st ∧ (grdOf ca).st ≤ 10000 := by rw [grdOf_st]; omega
 have hsk : 0 ≤ (grdOf cb).st ∧ (grdOf cb).st ≤ 10000 := by rw [grdOf_st, ← hs]; omega
 have hga := grdOf_ok ha
 have hgb := grdOf_ok hb
 refine acalls_of (N := 131) Tryz.func49 rfl rfl (by simp) fun E hE => ?_
 refine WA ?_
 refine WR ?_
 refine al_ef rfl (ef_call0 false (fun _ => pair_v va vb ca cb ha hb hs) rfl .fn rfl (by decide) (by kernel_rfl) rfl (fun _ => C0 rfl) (by simp)) ?_
 rintro _ _ ⟨_, _, _, ⟨p1, o1, p2, o2, rfl, rfl⟩, hF, hH⟩
 (refine NST hF hH ?_; clear hF hH; rintro rfl rfl)
 refine WE ?_
 refine WA ?_
 refine aw_cond_f rfl ?_
 refine ZZ ?_
 refine WA ?_
 refine aw_if rfl (fun hg0 => ?_) (fun hg0 => ?_)
 ·have hnf := un_l ha hb hs (by omega)
  generalize normC ca.st (covL ca ++ covL cb) = R at *
  refine WR ?_
  refine al_ef rfl (ef_call0 false (fun _ => cells_v (grdOf cb) p2 o2 hgb hsk) rfl .fn rfl (by decide) (by kernel_rfl) rfl (fun _ => C0 rfl) (by simp)) ?_
  rintro _ _ ⟨_, _, _, ⟨v2, rfl, rfl⟩, hF, hH⟩
  rw [hnf] at hF
  (refine NST hF hH ?_; clear hF hH; rintro rfl rfl)
  refine WE ?_
  exact aret_of (us := [celA v2 R.1, .c (I R.2)]) [] (fun _ => .t [celA v2 R.1, .c (I R.2)]) (fun _ => []) (.cella (n := 4) rfl (by kernel_rfl) (Cells.box rfl) (by simp) (by (try simp only [nm, putL, Nat.reduceAdd, cellsOf, cvOf]) <;> rfl) (.tmp rfl .nil)) (by decide) (fun i hi => absurd hi (Nat.not_lt_zero i)) (fun g' => .tL (.cons (.aL (.cons (.c rfl) (.cons (.c rfl) (.cons (.c rfl) (.cons (.c rfl) .nil))))) (.cons (.c rfl) .nil))) (fun _ => .nil) (fun g' => ⟨v2, rfl, rfl⟩)
 refine WA ?_
 refine aw_if rfl (fun hk0 => ?_) (fun hk0 => ?_)
 ·have hnf := un_r ha hb (by omega)
  generalize normC ca.st (covL ca ++ covL cb) = R at *
  refine WR ?_
  refine al_ef rfl (ef_call0 false (fun _ => cells_v (grdOf ca) p1 o1 hga hsg) rfl .fn rfl (by decide) (by kernel_rfl) rfl (fun _ => C0 rfl) (by simp)) ?_
  rintro _ _ ⟨_, _, _, ⟨v2, rfl, rfl⟩, hF, hH⟩
  rw [hnf] at hF
  (refine NST hF hH ?_; clear hF hH; rintro rfl rfl)
  refine WE ?_
  exact aret_of (us := [celA v2 R.1, .c (I R.2)]) [] (fun _ => .t [celA v2 R.1, .c (I R.2)]) (fun _ => []) (.cella (n := 4) rfl (by kernel_rfl) (Cells.box rfl) (by simp) (by (try simp only [nm, putL, Nat.reduceAdd, cellsOf, cvOf]) <;> rfl) (.tmp rfl .nil)) (by decide) (fun i hi => absurd hi (Nat.not_lt_zero i)) (fun g' => .tL (.cons (.aL (.cons (.c rfl) (.cons (.c rfl) (.cons (.c rfl) (.cons (.c rfl) .nil))))) (.cons (.c rfl) .nil))) (fun _ => .nil) (fun g' => ⟨v2, rfl, rfl⟩)
 have hbg := fun p => box_in (p := p) ha (by omega)
 have hbk := fun p => box_in (p := p) hb (by omega)
 obtain ⟨u0, u1, u2, u3, u4⟩ := un_x ha hb (by omega) (by omega)
 obtain ⟨e1, e2, e3⟩ := grd_bd ha
 obtain ⟨e4, e5, e6⟩ := grd_bd hb
 have e7 := e3 (by omega)
 have e8 := e6 (by omega)
 have hgx := hga.x
 have hgy := hga.y
 have hkx := hgb.x
 have hky := hgb.y
 clear e3 e6
 refine ZZ ?_
 refine aw_wk (wk_of (K := fun F H => F = [(2, .p 0 0 0), (4, .p 1 0 0), (6, gV p1 o1 (grdOf ca)), (7, gV p2 o2 (grdOf cb))] ∧ H = [celB va ca, .box [.c (I 0), .c (I 0), .c (I 0), .c (.r (.slice none 0 0) [])]]) [some 0, some 2] (fun _ => [(2, .p 0 0 0), (4, .p 1 0 0), (6, gV p1 o1 (grdOf ca)), (7, gV p2 o2 (grdOf cb))]) (fun _ => [celB va ca, .box [.c (I 0), .c (I 0), .c (I 0), .c (.r (.slice none 0 0) [])]]) (by decide) (ZNL hE) ZCF ZCH (fun _ => ⟨rfl, rfl⟩)) ?_
 rintro F H ⟨rfl, rfl⟩
 refine ZZ ?_
 refine aw_regionT [(0, none), (1, none), (2, none), (3, none), (4, none), (5, none), (6, none), (7, none), (8, none), (9, none), (10, none), (11, none), (12, none), (13, none), (14, none), (15, none), (16, none), (17, none), (18, none), (19, none)] hMixed (by kernel_rfl) ?_
 refine WQ ?_
 refine ZZ ?_
 refine aw_regionT [(0, none), (1, none), (2, none), (3, none), (4, none), (5, none), (6, none), (7, none), (8, none), (9, none), (10, none), (11, none), (12, none), (13, none), (14, none), (15, none), (16, none), (17, none), (18, none), (19, none), (20, none), (21, none), (22, none), (23, none), (24, none), (25, none), (26, none), (27, none), (28, none), (29, none), (30, none), (31, none), (32, none), (33, none), (34, none), (35, none), (36, none), (37, none), (38, none), (39, none), (40, none), (41, none), (42, none), (43, none)] hMixed (by kernel_rfl) ?_
 refine WQ ?_
 refine aw_wk (wk_of (K := fun F H => F = [(2, .p 0 0 0), (4, .p 1 0 0), (6, gV p1 o1 (grdOf ca)), (7, gV p2 o2 (grdOf cb)), (9, .c (I (min (grdOf ca).x (grdOf cb).x))), (10, .c (I (min (grdOf ca).y (grdOf cb).y))), (11, .c (I (max ((grdOf ca).x + ((grdOf ca).w : Int)) ((grdOf cb).x + ((grdOf cb).w : Int)) - min (grdOf ca).x (grdOf cb).x))), (12, .c (I (max ((grdOf ca).y + ((grdOf ca).h : Int)) ((grdOf cb).y + ((grdOf cb).h : Int)) - min (grdOf ca).y (grdOf cb).y)))] ∧ H = [celB va ca, .box [.c (I 0), .c (I 0), .c (I 0), .c (.r (.slice none 0 0) [])]]) [some 0, some 1] (fun _ => [(2, .p 0 0 0), (4, .p 1 0 0), (6, gV p1 o1 (grdOf ca)), (7, gV p2 o2 (grdOf cb)), (9, .c (I (min (grdOf ca).x (grdOf cb).x))), (10, .c (I (min (grdOf ca).y (grdOf cb).y))), (11, .c (I (max ((grdOf ca).x + ((grdOf ca).w : Int)) ((grdOf cb).x + ((grdOf cb).w : Int)) - min (grdOf ca).x (grdOf cb).x))), (12, .c (I (max ((grdOf ca).y + ((grdOf ca).h : Int)) ((grdOf cb).y + ((grdOf cb).h : Int)) - min (grdOf ca).y (grdOf cb).y)))]) (fun _ => [celB va ca, .box [.c (I 0), .c (I 0), .c (I 0), .c (.r (.slice none 0 0) [])]]) (by decide) (ZNL hE) ZCF ZCH (fun _ => ⟨rfl, rfl⟩)) ?_
 rintro F H ⟨rfl, rfl⟩
 have hng := fun X Y W T h1 h2 => un_g (X := X) (Y := Y) (W := W) (T := T) ha hb h1 h2
 have her := fun h => un_e (st := ca.st) u0 h
 rw [u1, u2, u3, u4] at her
 obtain ⟨W, hWe⟩ : ∃ W : Nat, max ((grdOf ca).x + ((grdOf ca).w : Int)) ((grdOf cb).x + ((grdOf cb).w : Int)) - min (grdOf ca).x (grdOf cb).x = W := ⟨(max ((grdOf ca).x + ((grdOf ca).w : Int)) ((grdOf cb).x + ((grdOf cb).w : Int)) - min (grdOf ca).x (grdOf cb).x).toNat, by omega⟩
 obtain ⟨T, hTe⟩ : ∃ T : Nat, max ((grdOf ca).y + ((grdOf ca).h : Int)) ((grdOf cb).y + ((grdOf cb).h : Int)) - min (grdOf ca).y (grdOf cb).y = T := ⟨(max ((grdOf ca).y + ((grdOf ca).h : Int)) ((grdOf cb).y + ((grdOf cb).h : Int)) - min (grdOf ca).y (grdOf cb).y).toNat, by omega⟩
 rw [hWe, hTe]
 have hW0 : W ≤ 20000300 := by omega
 have hT0 : T ≤ 20000300 := by omega
 have her2 : 200 < W ∨ 200 < T → normC ca.st (covL ca ++ covL cb) = (⟨0, 0, 0, []⟩, 12) := fun h => her (by omega)
 have hi1 : ∀ p ∈ covG (grdOf ca), inBox (min (grdOf ca).x (grdOf cb).x) (min (grdOf ca).y (grdOf cb).y) W T p := fun p hp => by have := hbg p hp; unfold inBox; omega
 have hi2 : ∀ p ∈ covG (grdOf cb), inBox (min (grdOf ca).x (grdOf cb).x) (min (grdOf ca).y (grdOf cb).y) W T p := fun p hp => by have := hbk p hp; unfold inBox; omega
 have hnf := hng _ _ _ _ hi1 hi2
 have hX1 : -10000000 ≤ min (grdOf ca).x (grdOf cb).x ∧ min (grdOf ca).x (grdOf cb).x ≤ 10000000 := by omega
 have hY1 : -10000000 ≤ min (grdOf ca).y (grdOf cb).y ∧ min (grdOf ca).y (grdOf cb).y ≤ 10000000 := by omega
 clear hng her hWe hTe u0 u1 u2 u3 u4 hbg hbk e1 e2 e4 e5 e7 e8 hgx hgy hkx hky
 generalize hG : grdOf ca = G at *
 generalize hK : grdOf cb = K at *
 generalize min G.x K.x = X at *
 generalize min G.y K.y = Y at *
 generalize normC ca.st (covL ca ++ covL cb) = R at *
 by_cases hw2 : 200 < W
 ·obtain rfl := her2 (.inl hw2)
  refine WA ?_
  refine aw_cond_t rfl ?_
  refine WA ?_
  exact aret_of (us := [.a [.c (I 0), .c (I 0), .c (I 0), .c (.r (.slice none 0 0) [])], .c (I 12)]) [] (fun g' => .t [.a [.c (I 0), .c (I 0), .c (I 0), .c (.r (.slice none 0 0) [])], .c (I 12)]) (fun _ => []) (.cella (n := 4) rfl (by kernel_rfl) (Cells.box rfl) (by simp) (by (try simp only [nm, putL, Nat.reduceAdd, cellsOf, cvOf]) <;> rfl) (.tmp rfl .nil)) (by decide) (fun i hi => absurd hi (Nat.not_lt_zero i)) (fun g' => .tL (.cons (.aL (.cons (.c rfl) (.cons (.c rfl) (.cons (.c rfl) (.cons (.c rfl) .nil))))) (.cons (.c rfl) .nil))) (fun _ => .nil) (fun g' => ⟨.slice none 0 0, rfl, rfl⟩)
 by_cases ht2 : 200 < T
 ·obtain rfl := her2 (.inr ht2)
  refine WA ?_
  refine aw_cond_t rfl ?_
  refine WA ?_
  exact aret_of (us := [.a [.c (I 0), .c (I 0), .c (I 0), .c (.r (.slice none 0 0) [])], .c (I 12)]) [] (fun g' => .t [.a [.c (I 0), .c (I 0), .c (I 0), .c (.r (.slice none 0 0) [])], .c (I 12)]) (fun _ => []) (.cella (n := 4) rfl (by kernel_rfl) (Cells.box rfl) (by simp) (by (try simp only [nm, putL, Nat.reduceAdd, cellsOf, cvOf]) <;> rfl) (.tmp rfl .nil)) (by decide) (fun i hi => absurd hi (Nat.not_lt_zero i)) (fun g' => .tL (.cons (.aL (.cons (.c rfl) (.cons (.c rfl) (.cons (.c rfl) (.cons (.c rfl) .nil))))) (.cons (.c rfl) .nil))) (fun _ => .nil) (fun g' => ⟨.slice none 0 0, rfl, rfl⟩)
 clear her2
 have hW1 : W ≤ 1000 := by omega
 have hT1 : T ≤ 1000 := by omega
 refine WA ?_
 refine aw_cond_f rfl ?_
 refine ZZ ?_
 refine WR ?_
 refine al_ef rfl (ef_call0 false (fun _ => newgrid_v ca.st X Y W T hW1 hT1) rfl .fn rfl (by decide) (by kernel_rfl) rfl (fun _ => C0 rfl) (by simp)) ?_
 rintro _ _ ⟨_, _, _, ⟨rfl, rfl⟩, hF, hH⟩
 (refine NST hF hH ?_; clear hF hH; rintro rfl rfl)
 refine WE ?_
 refine aw_wk (wk_of (K := fun F H => F = [(4, .p 0 0 0), (6, gV p1 o1 G), (7, gV p2 o2 K), (13, .p 1 0 0)] ∧ H = [.box [.c (I 0), .c (I 0), .c (I 0), .c (.r (.slice none 0 0) [])], gB ca.st X Y W T 2 (W * T), gArr (W * T) (List.replicate (W * T) false)]) [some 1, some 2, some 3] (fun _ => [(4, .p 0 0 0), (6, gV p1 o1 G), (7, gV p2 o2 K), (13, .p 1 0 0)]) (fun _ => [.box [.c (I 0), .c (I 0), .c (I 0), .c (.r (.slice none 0 0) [])], gB ca.st X Y W T 2 (W * T), gArr (W * T) (List.replicate (W * T) false)]) (by decide) (ZNL hE) ZCF ZCH (fun _ => ⟨rfl, rfl⟩)) ?_
 rintro F H ⟨rfl, rfl⟩
 refine ZR ?_
 iterate 2 refine WX1 ?_
 refine ZA (rd_bound rfl rfl) ?_
 refine al_ef rfl (ef_callp [1, 2] (fun _ => [gB ca.st X Y W T 1 (W * T), gArr (W * T) (List.replicate (W * T) false)]) false (fun _ => each_set G p1 o1 hga ca.st X Y W T (List.replicate (W * T) false) ((by simp)) hW1 hT1 hX1 hY1 hi1) rfl .fn rfl (by decide) (by kernel_rfl) rfl ZCH (by decide) ZCH (by simp)) ?_
 rintro F1 H1 ⟨_, _, _, _, ⟨rfl, rfl⟩, hF, hH⟩
 rw [killF_nil] at hF; (refine NSU hF hH ?_; clear hF hH; rintro rfl rfl)
 refine WE ?_
 refine ZR ?_
 iterate 2 refine WX1 ?_
 refine ZA (rd_bound rfl rfl) ?_
 refine al_ef rfl (ef_callp [1, 2] (fun _ => [gB ca.st X Y W T 1 (W * T), gArr (W * T) (putG X Y W (List.replicate (W * T) false) (covG G))]) false (fun _ => each_set K p2 o2 hgb ca.st X Y W T (putG X Y W (List.replicate (W * T) false) (covG G)) ((by simp [putG_len])) hW1 hT1 hX1 hY1 hi2) rfl .fn rfl (by decide) (by kernel_rfl) rfl ZCH (by decide) ZCH (by simp)) ?_
 rintro F1 H1 ⟨_, _, _, _, ⟨rfl, rfl⟩, hF, hH⟩
 rw [killF_nil] at hF; (refine NSU hF hH ?_; clear hF hH; rintro rfl rfl)
 refine WE ?_
 have hgu : GOk (unG ca.st X Y W T (covG G) (covG K)) := ⟨unG_len, hW1, hT1, hX1, hY1⟩
 refine aw_wk (wk_of (K := fun F H => ∃ pv1 v1, F = [(4, .p 0 0 0), (13, gV pv1 v1 (unG ca.st X Y W T (covG G) (covG K)))] ∧ H = [.box [.c (I 0), .c (I 0), .c (I 0), .c (.r (.slice none 0 0) [])]]) [some 0] (fun f => [(4, .p 0 0 0), (13, gV (f (.p 1 0 0)) (f (.o 2 0 (W * T) (W * T))) (unG ca.st X Y W T (covG G) (covG K)))]) (fun _ => [.box [.c (I 0), .c (I 0), .c (I 0), .c (.r (.slice none 0 0) [])]]) (by decide) (ZNL hE) (fun _ => .cons rfl (.p rfl) (.cons rfl (frzG (g := (unG ca.st X Y W T (covG G) (covG K))) rfl rfl unG_len rfl rfl) .nil)) ZCH (fun _ => ⟨_, _, rfl, rfl⟩)) ?_
 rintro F H ⟨pv1, v1, rfl, rfl⟩
 refine WR ?_
 refine al_ef rfl (ef_call0 false (fun _ => cells_v (unG ca.st X Y W T (covG G) (covG K)) pv1 v1 hgu (by simp only [unG]; omega)) rfl .fn rfl (by decide) (by kernel_rfl) rfl (fun _ => C0 rfl) (by simp)) ?_
 rintro _ _ ⟨_, _, _, ⟨v2, rfl, rfl⟩, hF, hH⟩
 rw [hnf] at hF
 (refine NST hF hH ?_; clear hF hH; rintro rfl rfl)
 refine WE ?_
 exact aret_of (us := [celA v2 R.1, .c (I R.2)]) [] (fun _ => .t [celA v2 R.1, .c (I R.2)]) (fun _ => []) (.cella (n := 4) rfl (by kernel_rfl) (Cells.box rfl) (by simp) (by (try simp only [nm, putL, Nat.reduceAdd, cellsOf, cvOf]) <;> rfl) (.tmp rfl .nil)) (by decide) (fun i hi => absurd hi (Nat.not_lt_zero i)) (fun g' => .tL (.cons (.aL (.cons (.c rfl) (.cons (.c rfl) (.cons (.c rfl) (.cons (.c rfl) .nil))))) (.cons (.c rfl) .nil))) (fun _ => .nil) (fun g' => ⟨v2, rfl, rfl⟩)
end Go.Proofs.YtniolldgidgffaaGreatDoor

/- The reference's places, and a place among places, by value. -/
-- NEWM
namespace Go.Proofs.YtniolldgidgffaaGreatDoor
open Go Go.RowKit
set_option maxRecDepth 100000
end Go.Proofs.YtniolldgidgffaaGreatDoor

/- The reference's cells that are so, by value: these. -/
-- NEWM
namespace Go.Proofs.YtniolldgidgffaaGreatDoor
open Go Go.RowKit
set_option maxRecDepth 100000
end Go.Proofs.YtniolldgidgffaaGreatDoor

/- The reference's walls, by value: WallsOf. -/
-- NEWM
namespace Go.Proofs.YtniolldgidgffaaGreatDoor
open Go Go.RowKit
set_option maxRecDepth 100000
end Go.Proofs.YtniolldgidgffaaGreatDoor

/- The reference's solid cells, by value: SolidOf. -/
-- NEWM
namespace Go.Proofs.YtniolldgidgffaaGreatDoor
open Go Go.RowKit
set_option maxRecDepth 100000
end Go.Proofs.YtniolldgidgffaaGreatDoor

/- The reference's faults of layers and styles; first, errs, when, by value. -/
-- NEWM
namespace Go.Proofs.YtniolldgidgffaaGreatDoor
open Go Go.RowKit
set_option maxRecDepth 100000
def fstN : List Int → Int
 | [] => 0
 | a :: l => if a = 0 then fstN l else a
theorem fstN_drop {l : List Int} {k : Nat} {n : Int} (h : l[k]? = some n) : fstN (l.drop k) = if n = 0 then fstN (l.drop (k + 1)) else n := by
 obtain ⟨h1, h2⟩ := List.getElem?_eq_some_iff.1 h
 rw [List.drop_eq_getElem_cons h1, h2]; rfl
abbrev nR (l : List Int) : List (List CV) := l.map fun n => [I n]
end Go.Proofs.YtniolldgidgffaaGreatDoor
