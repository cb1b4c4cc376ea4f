/- Fractions in lowest terms, by value: Lowest of the program and of its document. The same names as in XMf: import one of both. -/
import Derived.Test.YtniolldgidgffaaGreatDoorQbf
set_option linter.unusedSimpArgs false
set_option linter.unusedVariables false
/- Covered, by value. -/
-- NEWM
-- NILC
namespace Go.Proofs.YtniolldgidgffaaGreatDoor
open Go Go.RowKit
set_option maxRecDepth 100000
instance (a b p : Spot) : Decidable (onS a b p) := by unfold onS; infer_instance
def ledB (l : List Wy) (p : Spot) : Bool := l.any fun w => (List.range w.pts.length).any fun i => decide (onS (segW w.pts w.cl i).1 (segW w.pts w.cl i).2 p)
theorem ledB_iff {l : List Wy} {p : Spot} : ledB l p = true ↔ ledL l p := by
 unfold ledB ledL ledW
 rw [List.any_eq_true]
 simp only [List.any_eq_true, List.mem_range, decide_eq_true_iff]
def covT (l : List Wy) (c : Cel) : List Spot := (covL c).filter fun q => ledB l (ctrS c.st q)
theorem invP_cov {c : Cel} (hc : RCel c) {l : List Wy} {on : List Bool} (h : InvP (grdOf c) (ledL l) on) : normC (grdOf c).st (covG { (grdOf c) with on := on }) = normC c.st (covT l c) := by
 rw [grdOf_st]
 refine normC_mem fun q => ?_
 rw [h q, covT, List.mem_filter, ledB_iff, grdOf_cov hc, grdOf_st]
theorem passed_no (va v : Value) (c : Cel) (l : List Wy) (hcl : c.rows.length ≤ 1000000000) (hcr : ∀ r ∈ c.rows, r.length ≤ 1000000000) (hl : l.length ≤ 1000000) (hp : ∀ p ∈ l, p.pts.length ≤ 1000000) (e : Int) (he : passF c l = e) (h0 : e ≠ 0) : ACalls Tryz.prog 92 [celA va c, .c (.r v (wyR l))] [] fun u H => u = .t [pnil, pnil, .c (I e)] ∧ H = [] :=
 (passed_v va v c l hcl hcr hl hp).mono fun u H hq => by
  rw [he] at hq
  rcases hq with ⟨_, h1, h2⟩ | ⟨h, _⟩
  ·exact ⟨h1, h2⟩
  ·exact absurd h h0
theorem passed_ok (va v : Value) (c : Cel) (l : List Wy) (hcl : c.rows.length ≤ 1000000000) (hcr : ∀ r ∈ c.rows, r.length ≤ 1000000000) (hl : l.length ≤ 1000000) (hp : ∀ p ∈ l, p.pts.length ≤ 1000000) (he : passF c l = 0) : ACalls Tryz.prog 92 [celA va c, .c (.r v (wyR l))] [] fun u H => ∃ pg og on, u = .t [gV pg og (grdOf c), .p 0 0 0, .c (I 0)] ∧ H = [gB (grdOf c).st (grdOf c).x (grdOf c).y (grdOf c).w (grdOf c).h 1 ((grdOf c).w * (grdOf c).h), gArr ((grdOf c).w * (grdOf c).h) on] ∧ on.length = (grdOf c).w * (grdOf c).h ∧ InvP (grdOf c) (ledL l) on :=
 (passed_v va v c l hcl hcr hl hp).mono fun u H hq => by
  rcases hq with ⟨h, _⟩ | ⟨_, _, h⟩
  ·exact absurd he h
  ·exact h
theorem passF_r {c : Cel} {l : List Wy} (h : passF c l = 0) : RCel c ∧ wyF (l.map (·.pts)) = 0 := by
 unfold passF at h
 split at h
 ·contradiction
 ·rename_i h1
  exact ⟨celF_0.1 (by simpa using h1), h⟩
def covF (c : Cel) (l : List Wy) : Cel × Int := if passF c l ≠ 0 then (⟨0, 0, 0, []⟩, passF c l) else normC c.st (covT l c)
set_option maxHeartbeats 2000000 in
theorem covered_v (va v : Value) (c : Cel) (l : List Wy) (hcl : c.rows.length ≤ 1000000000) (hcr : ∀ r ∈ c.rows, r.length ≤ 1000000000) (hl : l.length ≤ 1000000) (hp : ∀ p ∈ l, p.pts.length ≤ 1000000) : ACalls Tryz.prog 27 [celA va c, .c (.r v (wyR l))] [] fun u H => ∃ v', u = .t [celA v' (covF c l).1, .c (I (covF c l).2)] ∧ H = [] := by
 obtain ⟨e, he⟩ : ∃ e, passF c l = e := ⟨_, rfl⟩
 by_cases h0 : e ≠ 0
 ·have hcv : covF c l = (⟨0, 0, 0, []⟩, e) := by unfold covF; rw [he, if_pos h0]
  refine acalls_of (N := 24) Tryz.func27 rfl rfl (by simp) fun E hE => ?_
  refine WA ?_
  refine WR ?_
  refine al_ef rfl (ef_call0 false (fun _ => passed_no va v c l hcl hcr hl hp e he h0) rfl .fn rfl (by decide) (by kernel_rfl) rfl (fun _ => C0 rfl) (by simp)) ?_
  rintro _ _ ⟨_, _, _, ⟨rfl, rfl⟩, hF, hH⟩
  (refine NST hF hH ?_; clear hF hH; rintro rfl rfl)
  refine WE ?_
  refine WA ?_
  refine aw_cond_t rfl ?_
  refine WA ?_
  exact aret_of (us := [.a [.c (I 0), .c (I 0), .c (I 0), .c (.r (.slice none 0 0) [])], .c (I e)]) [] (fun g' => .t [.a [.c (I 0), .c (I 0), .c (I 0), .c (.r (.slice none 0 0) [])], .c (I e)]) (fun _ => []) (.cella (n := 4) rfl (by kernel_rfl) (Cells.box rfl) (by simp) (by (try simp only [nm, putL, Nat.reduceAdd, cellsOf, cvOf]) <;> rfl) (.tmp rfl .nil)) (by decide) (fun i hi => absurd hi (Nat.not_lt_zero i)) (fun g' => .tL (.cons (.aL (.cons (.c rfl) (.cons (.c rfl) (.cons (.c rfl) (.cons (.c rfl) .nil))))) (.cons (.c rfl) .nil))) (fun _ => .nil) (fun g' => ⟨.slice none 0 0, by rw [hcv]; rfl, rfl⟩)
 obtain rfl : e = 0 := by omega
 obtain ⟨hc, _⟩ := passF_r he
 have hcv : covF c l = normC c.st (covT l c) := by unfold covF; rw [he, if_neg (by omega)]
 have hic := fun on h => invP_cov (on := on) hc (l := l) h
 have hg := grdOf_ok hc
 have hs : 0 ≤ (grdOf c).st ∧ (grdOf c).st ≤ 10000 := by rw [grdOf_st]; have := hc.st; omega
 rw [hcv]
 generalize normC c.st (covT l c) = R at *
 refine acalls_of (N := 24) Tryz.func27 rfl rfl (by simp) fun E hE => ?_
 refine WA ?_
 refine WR ?_
 refine al_ef rfl (ef_call0 false (fun _ => passed_ok va v c l hcl hcr hl hp he) rfl .fn rfl (by decide) (by kernel_rfl) rfl (fun _ => C0 rfl) (by simp)) ?_
 rintro _ _ ⟨_, _, _, ⟨pg, og, on, rfl, rfl, hlo, hinv⟩, hF, hH⟩
 (refine NST hF hH ?_; clear hF hH; rintro rfl rfl)
 refine WE ?_
 have hnf := hic on hinv
 generalize grdOf c = g at *
 refine WA ?_
 refine aw_cond_f rfl ?_
 refine ZZ ?_
 refine aw_wk (wk_of (K := fun F H => ∃ pv1 v1, F = [(4, .p 0 0 0), (7, gV pv1 v1 { g with on := on })] ∧ H = [.box [.c (I 0), .c (I 0), .c (I 0), .c (.r (.slice none 0 0) [])]]) [some 1] (fun f => [(4, .p 0 0 0), (7, gV (f (.p 2 0 0)) (f (.o 3 0 (g.w * g.h) (g.w * g.h))) { g with on := on })]) (fun _ => [.box [.c (I 0), .c (I 0), .c (I 0), .c (.r (.slice none 0 0) [])]]) (by decide) (ZNL hE) (fun _ => .cons rfl (.p rfl) (.cons rfl (frzG (g := { g with on := on }) rfl rfl hlo rfl rfl) .nil)) ZCH (fun _ => ⟨_, _, rfl, rfl⟩)) ?_
 rintro F H ⟨pv1, v1, rfl, rfl⟩
 have hgu : GOk { g with on := on } := ⟨hlo, hg.w, hg.h, hg.x, hg.y⟩
 refine WR ?_
 refine al_ef rfl (ef_call0 false (fun _ => cells_v _ pv1 v1 hgu hs) rfl .fn rfl (by decide) (by kernel_rfl) rfl (fun _ => C0 rfl) (by simp)) ?_
 rintro _ _ ⟨_, _, _, ⟨v2, rfl, rfl⟩, hF, hH⟩
 rw [hnf] at hF
 (refine NST hF hH ?_; clear hF hH; rintro rfl rfl)
 refine WE ?_
 exact aret_of (us := [celA v2 R.1, .c (I R.2)]) [] (fun _ => .t [celA v2 R.1, .c (I R.2)]) (fun _ => []) (.cella (n := 4) rfl (by kernel_rfl) (Cells.box rfl) (by simp) (by (try simp only [nm, putL, Nat.reduceAdd, cellsOf, cvOf]) <;> rfl) (.tmp rfl .nil)) (by decide) (fun i hi => absurd hi (Nat.not_lt_zero i)) (fun g' => .tL (.cons (.aL (.cons (.c rfl) (.cons (.c rfl) (.cons (.c rfl) (.cons (.c rfl) .nil))))) (.cons (.c rfl) .nil))) (fun _ => .nil) (fun g' => ⟨v2, rfl, rfl⟩)
end Go.Proofs.YtniolldgidgffaaGreatDoor

/- Left, by value. -/
-- NEWM
-- NILC
namespace Go.Proofs.YtniolldgidgffaaGreatDoor
open Go Go.RowKit
set_option maxRecDepth 100000
abbrev notG (h : Grd) (q : Spot) : Bool := !decide (q ∈ covG h)
set_option maxHeartbeats 1000000 in
theorem without1_v (h : Grd) (hh : GOk h) (p2 o2 p3 : Value) (g : Grd) (hg : GOk g) (on : List Bool) (k : Nat) (hk : k < g.on.length) (hon : on.length = g.w * g.h) (a b : Int) (ha : a = g.x + (k : Int) % g.w) (hb : b = g.y + (k : Int) / g.w) : ACalls Tryz.prog 162 [.c (I a), .c (I b), .c (.p p3 [.p p2 (gRow h o2)]), .p 0 0 0] [.box [.p 1 0 0], gB g.st g.x g.y g.w g.h 2 (g.w * g.h), gArr (g.w * g.h) on] fun u H => u = .t [] ∧ H = [.box [.p 1 0 0], gB g.st g.x g.y g.w g.h 2 (g.w * g.h), gArr (g.w * g.h) (if notG h (a, b) = true then on.set k true else on)] := by
 obtain ⟨w1, ⟨w2, w3⟩, w4, w5⟩ := each_at hg hk
 have hgx := hg.x
 have hgy := hg.y
 have hi := spt_ix w1 ha hb
 have hnb : g.w * g.h ≤ 1000000 := Nat.le_trans (Nat.mul_le_mul hg.w hg.h) (by decide)
 have hkn : k < g.w * g.h := by rw [← hg.len]; exact hk
 obtain ⟨q, hq⟩ : ∃ q, decide ((a, b) ∈ covG h) = q := ⟨_, rfl⟩
 rw [show notG h (a, b) = !q by rw [← hq]]
 refine acallsx_of false (N := 15) Tryz.func162 rfl rfl (by simp) fun E hE hP => ?_
 cases q with
 | false =>
  refine ZR ?_
  refine ZA (rd_ldcp rfl (by kernel_rfl) rfl rfl) ?_
  refine WO ?_
  refine al_ef rfl (ef_call0 false (fun _ => at_v h p2 o2 a b hh (by omega) (by omega)) rfl .fn rfl (by decide) (by kernel_rfl) rfl (fun _ => C0 rfl) (by simp)) ?_
  rintro _ _ ⟨_, _, _, ⟨rfl, rfl⟩, hF, hH⟩
  rw [atG_eq hh.len, hq] at hF
  (refine NST hF hH ?_; clear hF hH; rintro rfl rfl)
  refine WE ?_
  refine aw_cond_t rfl ?_
  refine WR ?_
  refine al_ef rfl (ef_callp [1, 2] (fun _ => [gB g.st g.x g.y g.w g.h 1 (g.w * g.h), gArr (g.w * g.h) on]) false (fun _ => set_v g.st g.x g.y g.w g.h on (g.w * g.h) a b k hon hi (by omega) hnb (by omega) (by omega) hgx hgy) rfl .fn rfl (by decide) (by kernel_rfl) rfl (fun _ => .cons (.p rfl) (.cons (.c rfl) (.cons (.c rfl) .nil))) (by decide) ZCH (by simp)) ?_
  rintro F1 H1 ⟨_, _, _, _, ⟨rfl, rfl⟩, hF, hH⟩
  rw [killF_nil] at hF; (refine NSU hF hH ?_; clear hF hH; rintro rfl rfl)
  refine WE ?_
  exact aret_0 [some 0, some 1, some 2] (fun _ => [.box [.p 1 0 0], gB g.st g.x g.y g.w g.h 2 (g.w * g.h), gArr (g.w * g.h) (on.set k true)]) (.inr rfl) rfl (by decide) (ZNK rfl) ZCH (fun _ => ⟨rfl, rfl⟩)
 | true =>
  refine ZR ?_
  refine ZA (rd_ldcp rfl (by kernel_rfl) rfl rfl) ?_
  refine WO ?_
  refine al_ef rfl (ef_call0 false (fun _ => at_v h p2 o2 a b hh (by omega) (by omega)) rfl .fn rfl (by decide) (by kernel_rfl) rfl (fun _ => C0 rfl) (by simp)) ?_
  rintro _ _ ⟨_, _, _, ⟨rfl, rfl⟩, hF, hH⟩
  rw [atG_eq hh.len, hq] at hF
  (refine NST hF hH ?_; clear hF hH; rintro rfl rfl)
  refine WE ?_
  refine aw_cond_f rfl ?_
  refine ZZ ?_
  exact aret_0 [some 0, some 1, some 2] (fun _ => [.box [.p 1 0 0], gB g.st g.x g.y g.w g.h 2 (g.w * g.h), gArr (g.w * g.h) on]) (.inr rfl) rfl (by decide) (ZNK rfl) ZCH (fun _ => ⟨rfl, rfl⟩)
set_option maxHeartbeats 1000000 in
theorem each_without (g : Grd) (pv v : Value) (h : Grd) (hh : GOk h) (p2 o2 p3 : Value) (hg : GOk g)  : ACalls Tryz.prog 95 [gV pv v g, .f (.func 162) [.c (.p p3 [.p p2 (gRow h o2)]), .p 0 0 0]] [.box [.p 1 0 0], gB g.st g.x g.y g.w g.h 2 (g.w * g.h), gArr (g.w * g.h) (filK g (notG h) 0)] fun u H => u = .t [] ∧ H = [.box [.p 1 0 0], gB g.st g.x g.y g.w g.h 2 (g.w * g.h), gArr (g.w * g.h) ((filG g (notG h)).on)] := by
 have hn := hg.n
 have hgx := hg.x
 have hgy := hg.y
 have eo : (oR g.on).length = g.on.length := by simp
 refine acallsx_of false (N := 42) Tryz.func95 rfl rfl (by simp) fun E hE hP => ?_
 refine WA ?_
 refine aw_loopw (fun m F H => ∃ k : Nat, m + k = g.on.length ∧ F = [(0, gV pv v g), (1, .f (.func 162) [.c (.p p3 [.p p2 (gRow h o2)]), .p 0 0 0]), (9, .c (.r v (oR g.on))), (10, .c (I (oR g.on).length)), (11, .c (I k))] ∧ H = [.box [.p 1 0 0], gB g.st g.x g.y g.w g.h 2 (g.w * g.h), gArr (g.w * g.h) (filK g (notG h) k)]) ?_ ?_
 ·refine wk_of [some 0, some 1, some 2] (fun _ => [(0, gV pv v g), (1, .f (.func 162) [.c (.p p3 [.p p2 (gRow h o2)]), .p 0 0 0]), (9, .c (.r v (oR g.on))), (10, .c (I (oR g.on).length)), (11, .c (I (0 : Nat)))]) (fun _ => [.box [.p 1 0 0], gB g.st g.x g.y g.w g.h 2 (g.w * g.h), gArr (g.w * g.h) (filK g (notG h) 0)]) (by decide) (ZNL hE) ZCF ZCH (fun _ => ?_)
  exact ⟨g.on.length, 0, by omega, rfl, rfl⟩
 rintro m F H ⟨k, hk, rfl, rfl⟩
 refine WA ?_
 refine aw_if rfl (fun hlt => ?_) (fun hge => ?_)
 ·have hkn : k < g.on.length := by omega
  obtain ⟨b, hb⟩ : ∃ b, g.on[k]? = some b := ⟨_, List.getElem?_eq_getElem hkn⟩
  have hrow : (oR g.on)[k]? = some [B b] := by rw [List.getElem?_map, hb]; rfl
  obtain ⟨w1, ⟨w2, w3⟩, w4, w5⟩ := each_at hg hkn
  refine WA ?_
  refine WA ?_
  cases b with
  | true =>
   refine aw_cond_t rfl ?_
   have hnx : filK g (notG h) (k + 1) = if notG h (spt g k) = true then (filK g (notG h) k).set k true else filK g (notG h) k := by rw [filK_next hb, Bool.true_and]
   refine ZZ ?_
   refine aw_regionT [(0, none), (1, none), (2, none), (3, none), (4, none), (5, none), (6, none), (7, none), (8, none), (9, none), (10, none), (11, none), (12, none), (13, none), (14, none), (15, none), (16, none), (17, none), (18, none), (19, none), (20, none), (21, none), (22, none), (23, some [])] hMixed (by kernel_rfl) ?_
   refine WP ?_
   refine at_ef rfl rfl (ef_call [0, 1, 2] (fun _ => [.box [.p 1 0 0], gB g.st g.x g.y g.w g.h 2 (g.w * g.h), gArr (g.w * g.h) (filK g (notG h) k)]) false (fun _ => without1_v h hh p2 o2 p3 g hg (filK g (notG h) k) k hkn (by rw [filK_len (by omega)]; exact hg.len) _ _ rfl rfl) rfl (.clo rfl) rfl (by decide) (by kernel_rfl) rfl ZCH (by decide) ZCH (by simp)) ?_
   rintro F1 H1 ⟨_, _, _, _, ⟨rfl, rfl⟩, hF, hH⟩
   rw [spt_eq, ← hnx] at hH
   (refine NSU hF hH ?_; clear hF hH; rintro rfl rfl)
   refine ⟨ag_none, ?_⟩
   refine WQ ?_
   refine WA ?_
   refine wk_of [some 0, some 1, some 2] (fun _ => [(0, gV pv v g), (1, .f (.func 162) [.c (.p p3 [.p p2 (gRow h o2)]), .p 0 0 0]), (9, .c (.r v (oR g.on))), (10, .c (I (oR g.on).length)), (11, .c (I (k + 1 : Nat)))]) (fun _ => [.box [.p 1 0 0], gB g.st g.x g.y g.w g.h 2 (g.w * g.h), gArr (g.w * g.h) (filK g (notG h) (k + 1))]) (by decide) (ZNL hE) ZCF ZCH (fun _ => ?_)
   exact ⟨m - 1, by omega, k + 1, by omega, rfl, rfl⟩
  | false =>
   refine aw_cond_f rfl ?_
   refine ZZ ?_
   refine WA ?_
   refine wk_of [some 0, some 1, some 2] (fun _ => [(0, gV pv v g), (1, .f (.func 162) [.c (.p p3 [.p p2 (gRow h o2)]), .p 0 0 0]), (9, .c (.r v (oR g.on))), (10, .c (I (oR g.on).length)), (11, .c (I (k + 1 : Nat)))]) (fun _ => [.box [.p 1 0 0], gB g.st g.x g.y g.w g.h 2 (g.w * g.h), gArr (g.w * g.h) (filK g (notG h) (k + 1))]) (by decide) (ZNL hE) ZCF (by rw [show filK g (notG h) (k + 1) = filK g (notG h) k by rw [filK_next hb, if_neg (by simp)]]; exact ZCH) (fun _ => ?_)
   exact ⟨m - 1, by omega, k + 1, by omega, rfl, rfl⟩
 obtain rfl : k = g.on.length := by omega
 refine ZZ ?_
 rw [filK_end]
 exact aret_0 [some 0, some 1, some 2] (fun _ => [.box [.p 1 0 0], gB g.st g.x g.y g.w g.h 2 (g.w * g.h), gArr (g.w * g.h) ((filG g (notG h)).on)]) (.inr rfl) rfl (by decide) (ZNK rfl) ZCH (fun _ => ⟨rfl, rfl⟩)
set_option maxHeartbeats 2000000 in
theorem without_v (p1 o1 p2 o2 : Value) (g h : Grd) (hg : GOk g) (hh : GOk h) : ACalls Tryz.prog 94 [gV p1 o1 g, gV p2 o2 h] [] fun u H => ∃ pv v, u = gV pv v (filG g (notG h)) ∧ H = [] := by
 have hgx := hg.x
 have hgy := hg.y
 have hgw := hg.w
 have hgh := hg.h
 have hf0 : filK g (notG h) 0 = List.replicate (g.w * g.h) false := by rw [filK_0, hg.len]
 refine acalls_of (N := 31) Tryz.func94 rfl rfl (by simp) fun E hE => ?_
 refine WA ?_
 refine aw_cut (fun F H => ∃ p3, F = [(0, gV p1 o1 g), (3, .c (.p p3 [.p p2 (gRow h o2)])), (5, .p 0 0 0)] ∧ H = [.box [.p 1 0 0], gB g.st g.x g.y g.w g.h 2 (g.w * g.h), gArr (g.w * g.h) (filK g (notG h) 0)]) ?_ ?_ wk_aw
 ·rw [hf0]
  refine ZZ ?_
  refine aw_regionM [[(0, none), (1, none), (2, none), (3, none), (4, none), (5, none), (6, none), (7, none), (8, none), (9, none), (10, none), (11, none), (12, none), (13, none), (14, none), (15, none), (16, none), (17, none), (18, none), (19, none), (20, some []), (21, some [0, 1, 2, 3, 4, 5, 6, 7, 8, 9, 10, 11, 12, 13, 14, 15, 16, 17, 18, 19]), (22, some [])], [(0, none), (1, none), (2, none), (3, none), (4, none), (5, none), (6, none), (7, none), (8, none), (9, none), (10, none), (11, none), (12, none), (13, none), (14, none), (15, none), (16, none), (17, none), (18, none), (19, none), (21, some [0, 1, 2, 3, 4, 5, 6, 7, 8, 9, 10, 11, 12, 13, 14, 15, 16, 17, 18, 19]), (20, some []), (22, some [])]] hMixed (by kernel_rfl) ?_
  focus
   refine WM ?_
   refine am_two (by rfl) (by rfl) (by rfl) ?_ ?_
   rotate_left
   refine WM ?_
   refine am_ef (i := 20) (by rfl) (by rfl) rfl rfl (ef_call0 false (fun _ => newgrid_v g.st g.x g.y g.w g.h hg.w hg.h) rfl .fn rfl (by decide) (by kernel_rfl) rfl (fun _ => C0 rfl) (by simp)) ?_
   rintro _ _ ⟨_, _, _, ⟨rfl, rfl⟩, hF, hH⟩
   (refine NST hF hH ?_; clear hF hH; rintro rfl rfl)
   refine ⟨AGX, ?_⟩
   refine WN ?_
   rotate_right
   refine am_ef (i := 20) (by rfl) (by rfl) rfl rfl (ef_call0 false (fun _ => newgrid_v g.st g.x g.y g.w g.h hg.w hg.h) rfl .fn rfl (by decide) (by kernel_rfl) rfl (fun _ => C0 rfl) (by simp)) ?_
   rintro _ _ ⟨_, _, _, ⟨rfl, rfl⟩, hF, hH⟩
   (refine NST hF hH ?_; clear hF hH; rintro rfl rfl)
   refine ⟨AGX, ?_⟩
   refine WN ?_
  all_goals (first
   | exact wk_of [some 3, some 1, some 2] (fun f => [(0, gV p1 o1 g), (3, .c (.p (f (.p 0 0 0)) [.p p2 (gRow h o2)])), (5, .p 0 0 0)]) (fun _ => [.box [.p 1 0 0], gB g.st g.x g.y g.w g.h 2 (g.w * g.h), gArr (g.w * g.h) (List.replicate (g.w * g.h) false)]) (by decide) (ZNL hE) (fun _ => .cons rfl (.c rfl) (.cons rfl (frzpL rfl rfl (.cons (.c rfl) .nil)) (.cons rfl (.p rfl) .nil))) ZCH (fun _ => ⟨_, rfl, rfl⟩)
   | exact wk_of [some 1, some 2, some 3] (fun f => [(0, gV p1 o1 g), (3, .c (.p (f (.p 0 0 0)) [.p p2 (gRow h o2)])), (5, .p 0 0 0)]) (fun _ => [.box [.p 1 0 0], gB g.st g.x g.y g.w g.h 2 (g.w * g.h), gArr (g.w * g.h) (List.replicate (g.w * g.h) false)]) (by decide) (ZNL hE) (fun _ => .cons rfl (.c rfl) (.cons rfl (frzpL rfl rfl (.cons (.c rfl) .nil)) (.cons rfl (.p rfl) .nil))) ZCH (fun _ => ⟨_, rfl, rfl⟩))
 rintro F H ⟨p3, rfl, rfl⟩
 refine ZZ ?_
 refine WR ?_
 refine al_ef rfl (ef_call [0, 1, 2] (fun _ => [.box [.p 1 0 0], gB g.st g.x g.y g.w g.h 2 (g.w * g.h), gArr (g.w * g.h) (filK g (notG h) 0)]) false (fun _ => each_without g p1 o1 h hh p2 o2 p3 hg) rfl .fn rfl (by decide) (by kernel_rfl) rfl ZCH (by decide) ZCH (by simp)) ?_
 rintro F1 H1 ⟨_, _, _, _, ⟨rfl, rfl⟩, hF, hH⟩
 (refine NSU hF hH ?_; clear hF hH; rintro rfl rfl)
 refine WE ?_
 refine aw_wk (wk_of (K := fun F H => ∃ pv1 v1, F = [(5, .p 0 0 0)] ∧ H = [.box [gV pv1 v1 (filG g (notG h))]]) [some 0] (fun _ => [(5, .p 0 0 0)]) (fun f => [.box [gV (f (.p 1 0 0)) (f (.o 2 0 (g.w * g.h) (g.w * g.h))) (filG g (notG h))]]) (by decide) (ZNL hE) ZCF (fun _ => .box rfl (.cons (frzG rfl rfl (by simp [filG, hg.len]) rfl rfl) .nil) .nil) (fun _ => ⟨_, _, rfl, rfl⟩)) ?_
 rintro F H ⟨pv1, v1, rfl, rfl⟩
 refine WA ?_
 exact aret_1 [] _ rfl rfl rfl (by decide) (ZNK rfl) (fun _ => .nil) ⟨pv1, v1, rfl, rfl⟩
def lefT (l : List Wy) (c : Cel) : List Spot := (covL c).filter fun q => !ledB l (ctrS c.st q)
def lefF (c : Cel) (l : List Wy) : Cel × Int := if passF c l ≠ 0 then (⟨0, 0, 0, []⟩, passF c l) else normC c.st (lefT l c)
theorem invP_lef {c : Cel} (hc : RCel c) {l : List Wy} {on : List Bool} (h : InvP (grdOf c) (ledL l) on) : normC (grdOf c).st (covG (filG (grdOf c) (notG { (grdOf c) with on := on }))) = normC c.st (lefT l c) := by
 rw [grdOf_st]
 refine normC_mem fun q => ?_
 rw [filG_cov, notG, Bool.not_eq_true', decide_eq_false_iff_not, h q, lefT, List.mem_filter, Bool.not_eq_true', ← Bool.not_eq_true, ledB_iff, grdOf_cov hc, grdOf_st]
 constructor
 ·rintro ⟨h1, h2⟩; exact ⟨h1, fun h3 => h2 ⟨h1, h3⟩⟩
 ·rintro ⟨h1, h2⟩; exact ⟨h1, fun h3 => h2 h3.2⟩
set_option maxHeartbeats 2000000 in
theorem left_v (va v : Value) (c : Cel) (l : List Wy) (hcl : c.rows.length ≤ 1000000000) (hcr : ∀ r ∈ c.rows, r.length ≤ 1000000000) (hl : l.length ≤ 1000000) (hp : ∀ p ∈ l, p.pts.length ≤ 1000000) : ACalls Tryz.prog 28 [celA va c, .c (.r v (wyR l))] [] fun u H => ∃ v', u = .t [celA v' (lefF c l).1, .c (I (lefF c l).2)] ∧ H = [] := by
 obtain ⟨e, he⟩ : ∃ e, passF c l = e := ⟨_, rfl⟩
 by_cases h0 : e ≠ 0
 ·have hcv : lefF c l = (⟨0, 0, 0, []⟩, e) := by unfold lefF; rw [he, if_pos h0]
  refine acalls_of (N := 26) Tryz.func28 rfl rfl (by simp) fun E hE => ?_
  refine WA ?_
  refine WR ?_
  refine al_ef rfl (ef_call0 false (fun _ => passed_no va v c l hcl hcr hl hp e he h0) rfl .fn rfl (by decide) (by kernel_rfl) rfl (fun _ => C0 rfl) (by simp)) ?_
  rintro _ _ ⟨_, _, _, ⟨rfl, rfl⟩, hF, hH⟩
  (refine NST hF hH ?_; clear hF hH; rintro rfl rfl)
  refine WE ?_
  refine WA ?_
  refine aw_cond_t rfl ?_
  refine WA ?_
  exact aret_of (us := [.a [.c (I 0), .c (I 0), .c (I 0), .c (.r (.slice none 0 0) [])], .c (I e)]) [] (fun g' => .t [.a [.c (I 0), .c (I 0), .c (I 0), .c (.r (.slice none 0 0) [])], .c (I e)]) (fun _ => []) (.cella (n := 4) rfl (by kernel_rfl) (Cells.box rfl) (by simp) (by (try simp only [nm, putL, Nat.reduceAdd, cellsOf, cvOf]) <;> rfl) (.tmp rfl .nil)) (by decide) (fun i hi => absurd hi (Nat.not_lt_zero i)) (fun g' => .tL (.cons (.aL (.cons (.c rfl) (.cons (.c rfl) (.cons (.c rfl) (.cons (.c rfl) .nil))))) (.cons (.c rfl) .nil))) (fun _ => .nil) (fun g' => ⟨.slice none 0 0, by rw [hcv]; rfl, rfl⟩)
 obtain rfl : e = 0 := by omega
 obtain ⟨hc, _⟩ := passF_r he
 have hcv : lefF c l = normC c.st (lefT l c) := by unfold lefF; rw [he, if_neg (by omega)]
 have hic := fun on h => invP_lef (on := on) hc (l := l) h
 have hg := grdOf_ok hc
 have hs : 0 ≤ (grdOf c).st ∧ (grdOf c).st ≤ 10000 := by rw [grdOf_st]; have := hc.st; omega
 rw [hcv]
 generalize normC c.st (lefT l c) = R at *
 refine acalls_of (N := 26) Tryz.func28 rfl rfl (by simp) fun E hE => ?_
 refine WA ?_
 refine WR ?_
 refine al_ef rfl (ef_call0 false (fun _ => passed_ok va v c l hcl hcr hl hp he) rfl .fn rfl (by decide) (by kernel_rfl) rfl (fun _ => C0 rfl) (by simp)) ?_
 rintro _ _ ⟨_, _, _, ⟨pg, og, on, rfl, rfl, hlo, hinv⟩, hF, hH⟩
 (refine NST hF hH ?_; clear hF hH; rintro rfl rfl)
 refine WE ?_
 have hnf0 := hic on hinv
 generalize grdOf c = g at *
 have hnf : normC (filG g (notG { g with on := on })).st (covG (filG g (notG { g with on := on }))) = R := hnf0
 refine WA ?_
 refine aw_cond_f rfl ?_
 refine ZZ ?_
 refine aw_wk (wk_of (K := fun F H => ∃ pv1 v1, F = [(4, .p 0 0 0), (6, gV pg og g), (7, gV pv1 v1 { g with on := on })] ∧ H = [.box [.c (I 0), .c (I 0), .c (I 0), .c (.r (.slice none 0 0) [])]]) [some 1] (fun f => [(4, .p 0 0 0), (6, gV pg og g), (7, gV (f (.p 2 0 0)) (f (.o 3 0 (g.w * g.h) (g.w * g.h))) { g with on := on })]) (fun _ => [.box [.c (I 0), .c (I 0), .c (I 0), .c (.r (.slice none 0 0) [])]]) (by decide) (ZNL hE) (fun _ => .cons rfl (.p rfl) (.cons rfl (.c rfl) (.cons rfl (frzG (g := { g with on := on }) rfl rfl hlo rfl rfl) .nil))) ZCH (fun _ => ⟨_, _, rfl, rfl⟩)) ?_
 rintro F H ⟨pv1, v1, rfl, rfl⟩
 have hgu : GOk { g with on := on } := ⟨hlo, hg.w, hg.h, hg.x, hg.y⟩
 refine WR ?_
 refine al_ef rfl (ef_call0 false (fun _ => without_v pg og pv1 v1 g { g with on := on } hg hgu) rfl .fn rfl (by decide) (by kernel_rfl) rfl (fun _ => C0 rfl) (by simp)) ?_
 rintro _ _ ⟨_, _, _, ⟨pv2, v3, rfl, rfl⟩, hF, hH⟩
 (refine NST hF hH ?_; clear hF hH; rintro rfl rfl)
 refine al_ef rfl (ef_call0 false (fun _ => cells_v (filG g (notG { g with on := on })) pv2 v3 (filG_ok hg _) hs) rfl .fn rfl (by decide) (by kernel_rfl) rfl (fun _ => C0 rfl) (by simp)) ?_
 rintro _ _ ⟨_, _, _, ⟨v2, rfl, rfl⟩, hF, hH⟩
 rw [hnf] at hF
 (refine NST hF hH ?_; clear hF hH; rintro rfl rfl)
 refine WE ?_
 exact aret_of (us := [celA v2 R.1, .c (I R.2)]) [] (fun _ => .t [celA v2 R.1, .c (I R.2)]) (fun _ => []) (.cella (n := 4) rfl (by kernel_rfl) (Cells.box rfl) (by simp) (by (try simp only [nm, putL, Nat.reduceAdd, cellsOf, cvOf]) <;> rfl) (.tmp rfl .nil)) (by decide) (fun i hi => absurd hi (Nat.not_lt_zero i)) (fun g' => .tL (.cons (.aL (.cons (.c rfl) (.cons (.c rfl) (.cons (.c rfl) (.cons (.c rfl) .nil))))) (.cons (.c rfl) .nil))) (fun _ => .nil) (fun g' => ⟨v2, rfl, rfl⟩)
end Go.Proofs.YtniolldgidgffaaGreatDoor

/- Fractions in lowest terms, by value: Lowest of the program and of its document. The same names as in XMf: import one of both. -/
namespace Go.Proofs.YtniolldgidgffaaGreatDoor
open Go Go.RowKit
set_option maxRecDepth 100000
def gcdI (a b : Int) : Nat := Nat.gcd a.toNat b.toNat
abbrev lowR (a b : Int) : List CV := [I (a / gcdI a b), I (b / gcdI a b)]
theorem gcd_next (a b : Nat) : Nat.gcd b (a % b) = Nat.gcd a b := by
 rw [Nat.gcd_comm a b, Nat.gcd_rec b a, Nat.gcd_comm]
theorem low1_a (num den : Int) (h0 : 0 ≤ num) (h1 : num ≤ 9223372036854775807) (h2 : 1 ≤ den) (h3 : den ≤ 9223372036854775807) : ACalls Tryz.prog 98 [.c (I num), .c (I den)] [] fun u H => u = .a ((lowR num den).map .c) ∧ H = [] := by
 obtain ⟨p, rfl⟩ := Int.eq_ofNat_of_zero_le h0
 obtain ⟨q, rfl⟩ := Int.eq_ofNat_of_zero_le (Int.le_trans (by decide) h2)
 refine acalls_of (N := 22) Tryz.func98 rfl rfl (by simp) fun E hE => ?_
 refine WA ?_
 refine WA ?_
 refine aw_loopw (fun m F H => ∃ (a : Nat), a ≤ 9223372036854775807 ∧ m ≤ 9223372036854775807 ∧ Nat.gcd a m = Nat.gcd p q ∧ F = [(0, .c (I p)), (1, .c (I q)), (4, .p 0 0 0), (5, .c (I a)), (6, .c (I m))] ∧ H = [.box [.c (I 0), .c (I 0)]]) ?_ ?_
 ·refine wk_of [some 0] (fun _ => [(0, .c (I p)), (1, .c (I q)), (4, .p 0 0 0), (5, .c (I p)), (6, .c (I q))]) (fun _ => _) (by decide) (ZNL hE) ZCF ZCH (fun _ => ?_)
  exact ⟨q, p, by omega, by omega, rfl, rfl, rfl⟩
 rintro m F H ⟨a, ha, hb, hg, rfl, rfl⟩
 refine WA ?_
 refine aw_if rfl (fun hne => ?_) (fun he => ?_)
 ·have hlt := Nat.mod_lt a (show 0 < m by omega)
  refine ZZ ?_
  refine aw_regionT [(0, none), (1, none), (2, none), (3, none), (4, none), (5, none)] hMixed (by kernel_rfl) ?_
  refine WQ ?_
  refine wk_of [some 0] (fun _ => [(0, .c (I p)), (1, .c (I q)), (4, .p 0 0 0), (5, .c (I m)), (6, .c (I (a % m : Nat)))]) (fun _ => _) (by decide) (ZNL hE) ZCF ZCH (fun _ => ?_)
  exact ⟨a % m, hlt, m, by omega, by omega, by rw [gcd_next]; exact hg, rfl, rfl⟩
 obtain rfl : m = 0 := by omega
 rw [Nat.gcd_zero_right] at hg
 have hg1 : 0 < a := by rw [hg]; exact Nat.gcd_pos_of_pos_right _ (by omega)
 refine ZZ ?_
 refine aw_regionT [(0, none), (1, none), (2, none), (3, none), (4, none), (5, none), (6, none), (7, some [])] hMixed (by kernel_rfl) ?_
 refine WQ ?_
 refine aret_a [] [] rfl (KK (t := 52) rfl) rfl (Cells.box rfl) (by simp) (by (try simp only [nm, putL, Nat.reduceAdd, cellsOf, cvOf]) <;> rfl) (by decide) (ZNK rfl) (fun _ => C0 rfl) (fun _ => .nil) ⟨?_, rfl⟩
 rw [hg]; rfl
theorem low2_a (num den : Int) (h0 : 0 ≤ num) (h1 : num ≤ 9223372036854775807) (h2 : 1 ≤ den) (h3 : den ≤ 9223372036854775807) : ACalls Tryz.prog 106 [.c (I num), .c (I den)] [] fun u H => u = .a ((lowR num den).map .c) ∧ H = [] := by
 obtain ⟨p, rfl⟩ := Int.eq_ofNat_of_zero_le h0
 obtain ⟨q, rfl⟩ := Int.eq_ofNat_of_zero_le (Int.le_trans (by decide) h2)
 refine acalls_of (N := 25) Tryz.func106 rfl rfl (by simp) fun E hE => ?_
 refine WA ?_
 refine WA ?_
 refine aw_loopw (fun m F H => ∃ (a : Nat), a ≤ 9223372036854775807 ∧ m ≤ 9223372036854775807 ∧ Nat.gcd a m = Nat.gcd p q ∧ F = [(0, .c (I p)), (1, .c (I q)), (4, .p 0 0 0), (5, .c (I a)), (6, .c (I m))] ∧ H = [.box [.c (I 0), .c (I 0)]]) ?_ ?_
 ·refine wk_of [some 0] (fun _ => [(0, .c (I p)), (1, .c (I q)), (4, .p 0 0 0), (5, .c (I p)), (6, .c (I q))]) (fun _ => _) (by decide) (ZNL hE) ZCF ZCH (fun _ => ?_)
  exact ⟨q, p, by omega, by omega, rfl, rfl, rfl⟩
 rintro m F H ⟨a, ha, hb, hg, rfl, rfl⟩
 refine WA ?_
 refine aw_if rfl (fun hne => ?_) (fun he => ?_)
 ·have hlt := Nat.mod_lt a (show 0 < m by omega)
  refine ZZ ?_
  refine aw_regionT [(0, none), (1, none), (2, none), (3, none), (4, none), (5, none)] hMixed (by kernel_rfl) ?_
  refine WQ ?_
  refine wk_of [some 0] (fun _ => [(0, .c (I p)), (1, .c (I q)), (4, .p 0 0 0), (5, .c (I m)), (6, .c (I (a % m : Nat)))]) (fun _ => _) (by decide) (ZNL hE) ZCF ZCH (fun _ => ?_)
  exact ⟨a % m, hlt, m, by omega, by omega, by rw [gcd_next]; exact hg, rfl, rfl⟩
 obtain rfl : m = 0 := by omega
 rw [Nat.gcd_zero_right] at hg
 have hg1 : 0 < a := by rw [hg]; exact Nat.gcd_pos_of_pos_right _ (by omega)
 refine ZZ ?_
 refine aw_regionT [(0, none), (1, none), (2, none), (3, none), (4, none), (5, none), (6, none), (7, some [])] hMixed (by kernel_rfl) ?_
 refine WQ ?_
 refine aret_a [] [] rfl (KK (t := 52) rfl) rfl (Cells.box rfl) (by simp) (by (try simp only [nm, putL, Nat.reduceAdd, cellsOf, cvOf]) <;> rfl) (by decide) (ZNK rfl) (fun _ => C0 rfl) (fun _ => .nil) ⟨?_, rfl⟩
 rw [hg]; rfl
end Go.Proofs.YtniolldgidgffaaGreatDoor
