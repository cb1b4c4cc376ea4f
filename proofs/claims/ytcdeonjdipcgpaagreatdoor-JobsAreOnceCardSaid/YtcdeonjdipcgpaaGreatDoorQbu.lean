/- The law JobsAreOnce, walked. -/
import Derived.Test.YtcdeonjdipcgpaaGreatDoorProg
import Derived.Test.YtcdeonjdipcgpaaGreatDoorQap
import Derived.Test.YtcdeonjdipcgpaaGreatDoorQbn
import Derived.Test.YtcdeonjdipcgpaaGreatDoorQbs
import Derived.Test.YtcdeonjdipcgpaaGreatDoorQbt
set_option linter.unusedSimpArgs false
set_option linter.unusedVariables false
namespace Go.Proofs.YtcdeonjdipcgpaaGreatDoor
open Go
set_option maxRecDepth 1000000
theorem ready_run : xrun Tryz.prog xnone 37 = some (.bool true) := by kernel_rfl
theorem ready_a : ACalls Tryz.prog 37 [] [] fun u H => u = .c (B true) ∧ H = [] := acalls_of_xrun (by kernel_rfl) (xnone_ok _) (u := .bool true) ready_run
end Go.Proofs.YtcdeonjdipcgpaaGreatDoor
-- NEWM
namespace Go.Proofs.YtcdeonjdipcgpaaGreatDoor
open Go Go.RowKit
set_option maxRecDepth 1000000
def cV (w : List UInt8) (l : List Pr) : Nat := (l.filter fun x => decide (x.2 = w)).length
theorem cV_take {w : List UInt8} {l : List Pr} {k : Nat} {x : Pr} (h : l[k]? = some x) : cV w (l.take (k + 1)) = cV w (l.take k) + if x.2 = w then 1 else 0 := by
 unfold cV
 rw [List.take_add_one, h, List.filter_append, List.length_append]
 by_cases hx : x.2 = w <;> simp [hx]
theorem cV_perm {w : List UInt8} {l m : List Pr} (h : l.Perm m) : cV w l = cV w m := (h.filter _).length_eq
theorem cV_js : ∀ {js : List Jb}, (∀ j ∈ js, j.st = 0 ∨ j.st = 1 ∨ j.st = 2) → cV (stW 0) (js.filterMap stPr) = (js.filterMap rnPr).length ∧ cV (stW 2) (js.filterMap stPr) = (js.filterMap fPr).length ∧ cV (stW 2) (js.filterMap stPr) + cV (stW 1) (js.filterMap stPr) = (js.filterMap ePr).length
 | [], _ => ⟨rfl, rfl, rfl⟩
 | j :: js, h => by
  obtain ⟨h1, h2, h3⟩ := cV_js (js := js) fun x hx => h x (List.mem_cons_of_mem _ hx)
  unfold cV at h1 h2 h3 ⊢
  rcases h j List.mem_cons_self with hs | hs | hs
  ·simp [stPr, rnPr, fPr, ePr, hs, stW] at h1 h2 h3 ⊢
   omega
  ·simp [stPr, rnPr, fPr, ePr, hs, stW] at h1 h2 h3 ⊢
   omega
  ·simp [stPr, rnPr, fPr, ePr, hs, stW] at h1 h2 h3 ⊢
   omega
theorem div_mul_same (a b : Nat) (hb : 0 < b) : ((a : Int) / (gcdI a b : Nat)) * b = ((b : Int) / (gcdI a b : Nat)) * a := by
 have hg : gcdI a b = Nat.gcd a b := by simp [gcdI]
 rw [hg]
 have hgp : 0 < Nat.gcd a b := Nat.gcd_pos_of_pos_right _ hb
 obtain ⟨x, hx⟩ := Nat.gcd_dvd_left a b
 obtain ⟨y, hy⟩ := Nat.gcd_dvd_right a b
 generalize Nat.gcd a b = g at *
 subst hx
 subst hy
 rw [Int.natCast_mul, Int.natCast_mul, Int.mul_ediv_cancel_left _ (by omega), Int.mul_ediv_cancel_left _ (by omega)]
 rw [Int.mul_left_comm, Int.mul_comm (x : Int) y, Int.mul_left_comm]
theorem div_le (a : Nat) (g : Nat) : 0 ≤ (a : Int) / (g : Int) ∧ (a : Int) / (g : Int) ≤ a := ⟨Int.ediv_nonneg (by omega) (by omega), Int.ediv_le_self _ (by omega)⟩
theorem job_in {l : List Nt} {at_ : Int} (h0 : askF l at_ = 0) {rj : List Pr} (hrj : ∃ m0 ck, MapOk m0 ck ∧ (m0.map (·.2)).Perm ((bksF l (cntP at_ l)).1.js.filterMap stPr) ∧ rj = srtP m0) {x : Pr} (hx : x ∈ rj) : ∃ k j, (bksF l (cntP at_ l)).1.js[k]? = some j ∧ x = (j.nm, stW j.st) ∧ nmI (bksF l (cntP at_ l)).1.js j.nm = some k := by
 obtain ⟨m0, ck, h1, h2, rfl⟩ := hrj
 have h3 := ((zC3 h1.nk).trans h2).subset hx
 obtain ⟨j, hj, he⟩ := List.mem_filterMap.1 h3
 obtain ⟨k, hk⟩ := List.mem_iff_getElem?.1 hj
 refine ⟨k, j, hk, by simpa [stPr] using he.symm, nmI_is (bksF_ok at_ (zr1 h0)).js hk⟩
theorem job_runs {l : List Nt} {at_ : Int} (h0 : askF l at_ = 0) {rr : List Pr} (hrr : ∃ rl rk, RunOk (bksF l (cntP at_ l)).1.js rl ∧ MapOk rl rk ∧ rr = srtP rl) {j : Jb} (hj : j ∈ (bksF l (cntP at_ l)).1.js) (hs : j.st = 0) : rr.any (fun y => decide (y.2 = j.nm)) = true := by
 obtain ⟨rl, rk, h1, h2, rfl⟩ := hrr
 have hp := (run_perm (bksF_ok at_ (zr1 h0)).js h1 h2).trans (zC3 h2.nk).symm
 rw [List.any_eq_true]
 exact ⟨(j.pr, j.nm), hp.subset (List.mem_filterMap.2 ⟨j, hj, by simp [rnPr, hs]⟩), by simp⟩
theorem job_counts {l : List Nt} {at_ : Int} (h0 : askF l at_ = 0) {rj rr : List Pr} (hrj : ∃ m0 ck, MapOk m0 ck ∧ (m0.map (·.2)).Perm ((bksF l (cntP at_ l)).1.js.filterMap stPr) ∧ rj = srtP m0) (hrr : ∃ rl rk, RunOk (bksF l (cntP at_ l)).1.js rl ∧ MapOk rl rk ∧ rr = srtP rl) : cV (stW 0) rj = rr.length ∧ cV (stW 2) rj = ((bksF l (cntP at_ l)).1.js.filterMap fPr).length ∧ cV (stW 2) rj + cV (stW 1) rj = ((bksF l (cntP at_ l)).1.js.filterMap ePr).length := by
 obtain ⟨m0, ck, h1, h2, rfl⟩ := hrj
 obtain ⟨rl, rk, g1, g2, rfl⟩ := hrr
 have hJ := (bksF_ok at_ (zr1 h0)).js
 have hp := (zC3 h1.nk).trans h2
 obtain ⟨c1, c2, c3⟩ := cV_js hJ.st
 have hr := (run_perm hJ g1 g2).length_eq
 have hr2 := (zC3 g2.nk).length_eq
 rw [cV_perm hp, cV_perm hp, cV_perm hp]
 refine ⟨by omega, c2, c3⟩
def idxR (p : Pr → Bool) : List Pr → Nat → Int
 | [], _ => -1
 | x :: l, i => if p x = true then i else idxR p l (i + 1)
theorem idxR_any {p : Pr → Bool} : ∀ {l : List Pr} {i : Nat}, (0 ≤ idxR p l i ↔ l.any p = true)
 | [], i => by simp [idxR]
 | x :: l, i => by
  unfold idxR
  split
  ·rename_i h; simp [h]
  ·rename_i h; rw [idxR_any]; simp [h]
theorem drop_atR {l : List Pr} {k : Nat} {x : Pr} (h : l[k]? = some x) : l.drop k = x :: l.drop (k + 1) := by
 obtain ⟨h1, h2⟩ := List.getElem?_eq_some_iff.1 h
 rw [List.drop_eq_getElem_cons h1, h2]
theorem indexP_v (fn : FuncId) (hfn : okFn Tryz.prog fn = true) (p : Pr → Bool) (c0 c1 : List UInt8) (v : Value) (l : List Pr) (hl : l.length ≤ 1000000000) (hp : ∀ x ∈ l, ACalls Tryz.prog fn [prA x, .p 0 0 0] [.box [.c (T c0), .c (T c1)]] fun u H => u = .c (B (p x)) ∧ H = [.box [.c (T c0), .c (T c1)]]) :
    ACalls Tryz.prog 70 [.c (.r v (prRs l)), .f (.func fn) [.p 0 0 0]] [.box [.c (T c0), .c (T c1)]] fun u H => u = .c (I (idxR p l 0)) ∧ H = [.box [.c (T c0), .c (T c1)]] := by
 have e1 : (prRs l).length = l.length := by simp
 refine zi (N := 19) Tryz.func70 rfl rfl (by simp) fun E hE => ?_
 refine WA ?_
 refine WA ?_
 refine zE (fun m F H => ∃ (k : Nat), m + k = l.length ∧ idxR p (l.drop k) k = idxR p l 0 ∧ F = [(0, .c (.r v (prRs l))), (1, .f (.func fn) [.p 0 0 0]), (7, .c (I (prRs l).length)), (8, .c (I k))] ∧ H = [.box [.c (T c0), .c (T c1)]]) ?_ ?_
 ·refine zo [some 0] (fun _ => [(0, .c (.r v (prRs l))), (1, .f (.func fn) [.p 0 0 0]), (7, .c (I (prRs l).length)), (8, .c (I (0 : Nat)))]) (fun _ => [.box [.c (T c0), .c (T c1)]]) (by decide) (ZNL hE) ZCF ZCH (fun _ => ?_)
  exact ⟨l.length, 0, by omega, rfl, rfl, rfl⟩
 rintro m F H ⟨k, hk, hf, rfl, rfl⟩
 refine WA ?_
 refine zz rfl (fun hlt => ?_) (fun hge => ?_)
 ·obtain ⟨⟨x0, x1⟩, hx⟩ : ∃ n, l[k]? = some n := ⟨_, List.getElem?_eq_getElem (by omega)⟩
  have hpx := hp _ (List.mem_of_getElem? hx)
  rw [drop_atR hx, idxR] at hf
  obtain ⟨q, hq⟩ : ∃ q, p (x0, x1) = q := ⟨_, rfl⟩
  rw [hq] at hf hpx
  have hrow : (prRs l)[k]? = some [T x0, T x1] := by rw [List.getElem?_map, hx]; rfl
  refine WA ?_
  refine WR ?_
  refine zf rfl (zy1 [0] (fun _ => [.box [.c (T c0), .c (T c1)]]) false (fun _ => hpx) rfl (.clo rfl) rfl (by decide) hfn rfl (fun _ => .cons (.aL (C0 rfl)) (.cons (.p rfl) .nil)) (by decide) ZCH (by simp)) ?_
  rintro F1 H1 ⟨_, _, _, _, ⟨rfl, rfl⟩, hF, hH⟩
  (refine NSU hF hH ?_; clear hF hH; rintro rfl rfl)
  refine WE ?_
  cases q with
  | true =>
   refine zb rfl ?_
   refine WA ?_
   exact ze [some 0] [.box [.c (T c0), .c (T c1)]] rfl rfl rfl (by decide) (ZNK rfl) ZCH ⟨by rw [← hf]; rfl, rfl⟩
  | false =>
   refine za rfl ?_
   refine ZZ ?_
   refine WA ?_
   refine zo [some 0] (fun _ => [(0, .c (.r v (prRs l))), (1, .f (.func fn) [.p 0 0 0]), (7, .c (I (prRs l).length)), (8, .c (I (k + 1 : Nat)))]) (fun _ => [.box [.c (T c0), .c (T c1)]]) (by decide) (ZNL hE) ZCF ZCH (fun _ => ?_)
   exact ⟨m - 1, by omega, k + 1, by omega, by rw [← hf]; rfl, rfl, rfl⟩
 refine ZZ ?_
 refine WA ?_
 exact ze [some 0] [.box [.c (T c0), .c (T c1)]] rfl rfl rfl (by decide) (ZNK rfl) ZCH ⟨by rw [← hf, List.drop_eq_nil_of_le (by omega)]; rfl, rfl⟩
theorem containsP_v (fn : FuncId) (hfn : okFn Tryz.prog fn = true) (p : Pr → Bool) (c0 c1 : List UInt8) (v : Value) (l : List Pr) (hl : l.length ≤ 1000000000) (hp : ∀ x ∈ l, ACalls Tryz.prog fn [prA x, .p 0 0 0] [.box [.c (T c0), .c (T c1)]] fun u H => u = .c (B (p x)) ∧ H = [.box [.c (T c0), .c (T c1)]]) :
    ACalls Tryz.prog 34 [.c (.r v (prRs l)), .f (.func fn) [.p 0 0 0]] [.box [.c (T c0), .c (T c1)]] fun u H => u = .c (B (l.any p)) ∧ H = [.box [.c (T c0), .c (T c1)]] := by
 have hix := indexP_v fn hfn p c0 c1 v l hl hp
 refine zi (N := 9) Tryz.func34 rfl rfl (by simp) fun E hE => ?_
 by_cases hs : 0 ≤ idxR p l 0
 ·repeat' (first
   | (with_reducible refine zG ?_) | (with_reducible refine zF ?_) | (with_reducible refine zL ?_) | (with_reducible refine zQ ?_) | (with_reducible refine zO ?_) | (with_reducible refine zR ?_) | (with_reducible refine zP rfl ?_) | (with_reducible refine zM ?_) | (with_reducible refine zu ?_) | (with_reducible refine zn ?_) | (with_reducible refine zK ?_) | (with_reducible refine zA ?_)
   | refine zb rfl ?_ | refine za rfl ?_ | refine zw rfl (by assumption) ?_ | refine zr rfl (by assumption) ?_ | refine zz rfl (fun _ => ?_) (fun _ => ?_) | refine zq rfl (fun _ => ?_) (fun _ => ?_)
   | (refine zg (id := 1) ?_
      refine WO ?_
      refine zf rfl (zy1 [0] (fun _ => [.box [.c (T c0), .c (T c1)]]) false (fun _ => hix) rfl .fn rfl (by decide) (by kernel_rfl) rfl ZCH (by decide) ZCH (by simp)) ?_
      rintro F1 H1 ⟨_, _, _, _, ⟨rfl, rfl⟩, hF, hH⟩
      (refine NSU hF hH ?_; clear hF hH; rintro rfl rfl)
      refine WE ?_)
   | (refine zg ?_; refine WE ?_))
  exact ze [some 0] [.box [.c (T c0), .c (T c1)]] rfl rfl rfl (by decide) (ZNK rfl) ZCH ⟨congrArg (fun z => AV.c (B z)) (idxR_any.1 hs).symm, rfl⟩
 ·repeat' (first
   | (with_reducible refine zG ?_) | (with_reducible refine zF ?_) | (with_reducible refine zL ?_) | (with_reducible refine zQ ?_) | (with_reducible refine zO ?_) | (with_reducible refine zR ?_) | (with_reducible refine zP rfl ?_) | (with_reducible refine zM ?_) | (with_reducible refine zu ?_) | (with_reducible refine zn ?_) | (with_reducible refine zK ?_) | (with_reducible refine zA ?_)
   | refine zb rfl ?_ | refine za rfl ?_ | refine zw rfl (by assumption) ?_ | refine zr rfl (by assumption) ?_ | refine zz rfl (fun _ => ?_) (fun _ => ?_) | refine zq rfl (fun _ => ?_) (fun _ => ?_)
   | (refine zg (id := 1) ?_
      refine WO ?_
      refine zf rfl (zy1 [0] (fun _ => [.box [.c (T c0), .c (T c1)]]) false (fun _ => hix) rfl .fn rfl (by decide) (by kernel_rfl) rfl ZCH (by decide) ZCH (by simp)) ?_
      rintro F1 H1 ⟨_, _, _, _, ⟨rfl, rfl⟩, hF, hH⟩
      (refine NSU hF hH ?_; clear hF hH; rintro rfl rfl)
      refine WE ?_)
   | (refine zg ?_; refine WE ?_))
  exact ze [some 0] [.box [.c (T c0), .c (T c1)]] rfl rfl rfl (by decide) (ZNK rfl) ZCH ⟨congrArg (fun z => AV.c (B z)) (Bool.eq_false_iff.2 fun h => hs (idxR_any.2 h)).symm, rfl⟩
theorem once1_v (x : Pr) (c0 c1 : List UInt8) : ACalls Tryz.prog 35 [prA x, .p 0 0 0] [.box [.c (T c0), .c (T c1)]] fun u H => u = .c (B (decide (x.2 = c0))) ∧ H = [.box [.c (T c0), .c (T c1)]] := by
 obtain ⟨x0, x1⟩ := x
 obtain ⟨q, hq⟩ : ∃ q, decide (x1 = c0) = q := ⟨_, rfl⟩
 show ACalls _ _ [.a [.c (T x0), .c (T x1)], .p 0 0 0] _ fun u H => u = .c (B (decide (x1 = c0))) ∧ H = [.box [.c (T c0), .c (T c1)]]
 rw [hq]
 refine zi (N := 9) Tryz.func35 rfl rfl (by simp) fun E hE => ?_
 refine WA ?_
 refine ZR ?_
 iterate 4 refine WX1 ?_
 refine ZA (zV (a := x1) (b := c0) hq rfl Tryz.underlying9 rfl rfl) ?_
 refine WE ?_
 exact ze [some 0] [.box [.c (T c0), .c (T c1)]] rfl rfl rfl (by decide) (ZNK rfl) ZCH ⟨rfl, rfl⟩
set_option maxHeartbeats 4000000 in
theorem law_once (v : Value) (zs : List Int) (hs : StrOk zs) : ACalls Tryz.prog 4 [.c (.r v (zs.map fun z => [I z]))] [] fun u H => u = .c (B true) := by
 refine zi (N := 171) Tryz.func4 rfl rfl (by simp) fun E hE => ?_
 refine WA ?_
 refine WA ?_
 refine WR ?_
 refine zf rfl (zy1 [0] (fun _ => [strm v zs 0]) false (fun _ => rightnotes_f 20 (by omega) v zs 0 hs (by omega) (by omega)) rfl .fn rfl (by decide) (by kernel_rfl) rfl (fun _g => .cons (.p rfl) (.cons (.c rfl) .nil)) (by decide) ZCH (by simp)) ?_
 rintro F1 H1 ⟨_, _, _, _, ⟨la, cla, ala, hfla, ha1la, ha2la, hlla, hkla, hbla, hcla, rfl, rfl⟩, hF, hH⟩
 (refine NSU hF hH ?_; clear hF hH; rintro rfl rfl)
 refine WO ?_
 refine zf rfl (zj false (fun _ => range_f 0 100 _ _ _ hs (by omega) (by omega) (by omega) (by omega) (by omega) (by omega)) rfl .fn rfl (by decide) (by kernel_rfl) rfl rfl (fun _g => .cons (.p rfl) (.cons (.c rfl) (.cons (.c rfl) .nil))) (fun _g => .cons (.c rfl) (.cons (.c rfl) .nil)) (by simp)) ?_
 rintro F1 H1 ⟨_, _, _, _, ⟨r1, ar1, rfl, hq, hx1r1, hx2r1, hx3r1, hx4r1, _, hvr1⟩, hF, hH⟩
 injection hq with hq1 hq2; subst hq1; subst hq2
 (refine NST hF hH ?_; clear hF hH; rintro rfl rfl)
 obtain ⟨nr1, hnr1⟩ : ∃ m : Nat, r1 = (m : Int) := ⟨(r1).toNat, by omega⟩
 subst hnr1
 have hx5r1 := hx4r1 (by omega)
 refine WE ?_
 refine aw_wk (zo (K := fun F H => ∃ va, F = [(4, .c (.r va (noRs la))), (5, .c (I (nr1 : Nat)))] ∧ H = []) [] (fun g => [(4, .c (.r (g (.o 1 0 la.length cla)) (noRs la))), (5, .c (I (nr1 : Nat)))]) (fun _ => []) (by decide) (ZNL hE) (fun _ => .cons rfl (.frz rfl rfl (by rw [List.drop_zero, List.take_of_length_le (by simp)]) (by simp) rfl) (.cons rfl (.c rfl) .nil)) ZCH (fun _ => ⟨_, rfl, rfl⟩)) ?_
 rintro F H ⟨va, rfl, rfl⟩
 obtain ⟨at_, hat⟩ : ∃ at_ : Int, (nr1 : Int) = at_ := ⟨_, rfl⟩
 rw [hat]
 have hAs : ∀ x ∈ la, NtS x := fun x hx => (hbla x hx).s
 have hll : la.length ≤ 1000000 := by omega
 have hmo : moB at_ = true := by unfold moB outB; rw [decide_eq_false (by omega), decide_eq_false (by omega)]; rfl
 have h0 : askF la at_ = 0 := by unfold askF; rw [if_neg (by rw [hkla]; simp), hmo]; rfl
 have hjob := jobsP_v zE3 va la at_ hll hAs
 have hrun := runningP_v zE3 va la at_ hll hAs
 have hfld := failed_v va la at_ hll hAs
 have hok := bksF_ok at_ hkla
 have hjk := bksF_jk at_ hkla
 have hf1 : fldF la at_ = if ((bksF la (cntP at_ la)).1.js.filterMap ePr).length = 0 then (0, 0, 8) else ((((bksF la (cntP at_ la)).1.js.filterMap fPr).length : Int) / gcdI ((bksF la (cntP at_ la)).1.js.filterMap fPr).length ((bksF la (cntP at_ la)).1.js.filterMap ePr).length, (((bksF la (cntP at_ la)).1.js.filterMap ePr).length : Int) / gcdI ((bksF la (cntP at_ la)).1.js.filterMap fPr).length ((bksF la (cntP at_ la)).1.js.filterMap ePr).length, 0) := by unfold fldF; rw [if_neg (by simpa using h0)]
 rw [h0] at hjob hrun
 clear hs
 refine ZZ ?_
 refine WR ?_
 refine zf rfl (zc false (fun _ => hjob) rfl .fn rfl (by decide) (by kernel_rfl) rfl (fun _ => C0 rfl) (by simp)) ?_
 rintro _ _ ⟨_, _, _, ⟨rj, crj, hrj, hrjl, hcrj, rfl, rfl⟩, hF, hH⟩
 (refine NST hF hH ?_; clear hF hH; rintro rfl rfl)
 refine WE ?_
 refine WR ?_
 refine zf rfl (zc false (fun _ => hrun) rfl .fn rfl (by decide) (by kernel_rfl) rfl (fun _ => C0 rfl) (by simp)) ?_
 rintro _ _ ⟨_, _, _, ⟨rr, crr, hrr, hrrl, hcrr, rfl, rfl⟩, hF, hH⟩
 (refine NST hF hH ?_; clear hF hH; rintro rfl rfl)
 refine WE ?_
 refine WR ?_
 refine zf rfl (zc true (fun g => errsp_a [0, 0] (g (.o 2 0 2 2)) (by simp)) rfl .fn rfl (by decide) (by kernel_rfl) rfl (fun _ => .cons (.frz rfl rfl rfl rfl rfl) .nil) (fun _ _ _ _ ⟨hu, hH⟩ => by rw [hu, hH]; exact ⟨.c (.inl trivial), by simp⟩)) ?_
 rintro _ _ ⟨_, _, _, ⟨rfl, rfl⟩, hF, hH⟩
 rw [show firstK [0, 0] = 0 from rfl] at hF
 (refine NST hF hH ?_; clear hF hH; rintro rfl rfl)
 refine WE ?_
 refine za rfl ?_
 refine ZZ ?_
 have hrj' := hrj.resolve_left fun h => h.1 rfl
 have hrr' := hrr.resolve_left fun h => h.1 rfl
 replace hrj := hrj'.2
 replace hrr := hrr'.2
 clear hrj' hrr'
 obtain ⟨hc0, hc2, hc1⟩ := job_counts h0 hrj hrr
 rw [← hc2, ← hc1] at hf1
 refine WA ?_
 refine WA ?_
 have e1 : (prRs rj).length = rj.length := by simp
 have e2 : (prRs rr).length = rr.length := by simp
 refine zE (fun m F H => ∃ (v6 v8 : Value) (k n0 n1 n2 : Nat), m + k = rj.length ∧ cV (stW 0) (rj.take k) = n0 ∧ cV (stW 1) (rj.take k) = n1 ∧ cV (stW 2) (rj.take k) = n2 ∧ n0 ≤ k ∧ n1 ≤ k ∧ n2 ≤ k ∧ F = [(4, .c (.r va (noRs la))), (5, .c (I at_)), (8, .c (.r v8 (prRs rr))), (10, .c (I (n0))), (11, .c (I (n2))), (12, .c (I (n1))), (47, .c (.r v6 (prRs rj))), (48, .c (I (prRs rj).length)), (49, .c (I (k)))] ∧ H = []) ?_ ?_
 ·refine zo [] (fun g => [(4, .c (.r va (noRs la))), (5, .c (I at_)), (8, .c (.r (g (.o 1 0 rr.length crr)) (prRs rr))), (10, .c (I (0 : Nat))), (11, .c (I (0 : Nat))), (12, .c (I (0 : Nat))), (47, .c (.r (g (.o 0 0 rj.length crj)) (prRs rj))), (48, .c (I rj.length)), (49, .c (I (0 : Nat)))]) (fun _ => []) (by decide) (ZNL hE) (fun _ => .cons rfl (.c rfl) (.cons rfl (.c rfl) (.cons rfl (.frz rfl rfl (by rw [List.drop_zero, List.take_of_length_le (by simp)]) (by simp) rfl) (.cons rfl (.c rfl) (.cons rfl (.c rfl) (.cons rfl (.c rfl) (.cons rfl (.frz rfl rfl (by rw [List.drop_zero, List.take_of_length_le (by simp)]) (by simp) rfl) (.cons rfl (.c rfl) (.cons rfl (.c rfl) .nil))))))))) (fun _ => .nil) (fun _ => ?_)
  exact ⟨_, _, _, 0, 0, 0, 0, by omega, rfl, rfl, rfl, Nat.le_refl _, Nat.le_refl _, Nat.le_refl _, by rw [e1], rfl⟩
 rintro m F H ⟨v6, v8, k, n0, n1, n2, hk, hn0, hn1, hn2, hk0, hk1, hk2, rfl, rfl⟩
 refine WA ?_
 refine zz rfl (fun hlt => ?_) (fun hge => ?_)
 ·obtain ⟨x, hx⟩ : ∃ n, rj[k]? = some n := ⟨_, List.getElem?_eq_getElem (by omega)⟩
  have t0 := cV_take (w := stW 0) hx
  have t1 := cV_take (w := stW 1) hx
  have t2 := cV_take (w := stW 2) hx
  rw [hn0] at t0
  rw [hn1] at t1
  rw [hn2] at t2
  obtain ⟨kj, j, hj, rfl, hnm⟩ := job_in h0 hrj (List.mem_of_getElem? hx)
  have hjm := List.mem_of_getElem? hj
  have hky := hjk.key j hjm
  have hkl := key_len hky
  have hfin := hjk.fin j hjm
  have hst := hok.js.st j hjm
  have hall := hok.js.all j hjm
  have htim := hjk.tim j hjm
  have hj1 : jobJ la j.nm at_ = some j := by unfold jobJ; rw [hnm]; exact hj
  obtain ⟨hje, hpg⟩ := jobE_some h0 hky hj1
  have hprg := progress_v va la at_ hll hAs j.nm (by omega)
  have hpac := pace_v va la at_ hll hAs j.nm (by omega)
  have hpf : pacF la j.nm at_ = if (j.ly.length : Int) = 0 then (0, 0, false) else ((j.ly.getLast?.getD 0 - j.beg) / gcdI (j.ly.getLast?.getD 0 - j.beg) j.ly.length, (j.ly.length : Int) / gcdI (j.ly.getLast?.getD 0 - j.beg) j.ly.length, true) := by unfold pacF; rw [if_neg (by simpa using hje)]; unfold jobJ at hj1; rw [hj1]
  rw [hpg, hje] at hprg
  rw [hje] at hpac
  have hcf : ∀ c1 : List UInt8, _ := fun c1 => containsP_v 35 (by kernel_rfl) (fun y => decide (y.2 = j.nm)) j.nm c1 v8 rr (by omega) (fun y _ => once1_v y j.nm c1)
  have hpp : ∃ (pn pd : Int) (ok : Bool), pacF la j.nm at_ = (pn, pd, ok) ∧ 0 ≤ pn ∧ (((j.ly.length : Int) = 0 ∧ ok = false) ∨ (0 < (j.ly.length : Int) ∧ ok = true ∧ 1 ≤ pd)) := by
   rw [hpf]
   by_cases hz : (j.ly.length : Int) = 0
   ·rw [if_pos hz]; exact ⟨0, 0, false, rfl, Int.le_refl _, .inl ⟨hz, rfl⟩⟩
   ·rw [if_neg hz]
    have hlast : j.beg ≤ j.ly.getLast?.getD 0 := by
     cases hq : j.ly.getLast? with
     | none => rw [List.getLast?_eq_none_iff.1 hq] at hz; exact absurd rfl hz
     | some m => exact (htim.2.2 m (List.mem_of_getLast? hq)).1
    refine ⟨_, _, _, rfl, Int.ediv_nonneg (by omega) (by omega), .inr ⟨by omega, rfl, ?_⟩⟩
    have hg0 : gcdI (j.ly.getLast?.getD 0 - j.beg) j.ly.length ∣ j.ly.length := by unfold gcdI; rw [Int.toNat_natCast]; exact Nat.gcd_dvd_right _ _
    have hgp : 0 < gcdI (j.ly.getLast?.getD 0 - j.beg) j.ly.length := by unfold gcdI; rw [Int.toNat_natCast]; exact Nat.gcd_pos_of_pos_right _ (by omega)
    have h5 := Nat.div_pos (Nat.le_of_dvd (by omega) hg0) hgp
    have h6 : ((j.ly.length / gcdI (j.ly.getLast?.getD 0 - j.beg) j.ly.length : Nat) : Int) = (j.ly.length : Int) / gcdI (j.ly.getLast?.getD 0 - j.beg) j.ly.length := Int.natCast_ediv _ _
    omega
  obtain ⟨pn, pd, ok, hpe, hpn, hpo⟩ := hpp
  rw [hpe] at hpac
  have hrun2 := fun hs0 => job_runs h0 hrr hjm hs0
  clear hpf hpe hj1 hpg hje htim hnm hj
  have hrow : (prRs rj)[k]? = some [T j.nm, T (stW j.st)] := by rw [List.getElem?_map, hx]; rfl
  clear hx
  obtain ⟨nm, hnmq⟩ : ∃ q, j.nm = q := ⟨_, rfl⟩
  rw [hnmq] at hprg hpac hrow hcf hrun2 t0 t1 t2
  simp only at hprg hpac
  generalize hnl : (j.ly.length : Int) = nl at hprg hpac hpo hall hfin
  generalize hal : j.all = al at hprg hpac hall hfin
  have hnl0 : 0 ≤ nl := by omega
  refine WA ?_
  refine WR ?_
  refine zf rfl (zc false (fun _ => hprg) rfl .fn rfl (by decide) (by kernel_rfl) rfl (fun _ => C0 rfl) (by simp)) ?_
  rintro _ _ ⟨_, _, _, ⟨rfl, rfl⟩, hF, hH⟩
  (refine NST hF hH ?_; clear hF hH; rintro rfl rfl)
  refine WE ?_
  refine WR ?_
  refine zf rfl (zc false (fun _ => hpac) rfl .fn rfl (by decide) (by kernel_rfl) rfl (fun _ => C0 rfl) (by simp)) ?_
  rintro _ _ ⟨_, _, _, ⟨rfl, rfl⟩, hF, hH⟩
  (refine NST hF hH ?_; clear hF hH; rintro rfl rfl)
  refine WE ?_
  refine zl4 (fun F H => F = [(4, .c (.r va (noRs la))), (5, .c (I at_)), (8, .c (.r v8 (prRs rr))), (10, .c (I (n0 : Nat))), (11, .c (I (n2 : Nat))), (12, .c (I (n1 : Nat))), (14, .p 0 0 0), (15, .c (I nl)), (16, .c (I al)), (47, .c (.r v6 (prRs rj))), (48, .c (I (prRs rj).length)), (49, .c (I k)), (103, .c (B false))] ∧ H = [.box [.c (T nm), .c (T (stW j.st))]]) ?_ ?_ wk_aw
  ·rcases hpo with ⟨hz, rfl⟩ | ⟨hz, rfl, hpd⟩
   ·subst hz
    refine WR ?_
    refine zf rfl (zc true (fun g => errsp_a [0, 0] (g (.o 2 0 2 2)) (by simp)) rfl .fn rfl (by decide) (by kernel_rfl) rfl (fun _ => .cons (.frz rfl rfl rfl rfl rfl) .nil) (fun _ _ _ _ ⟨hu, hH⟩ => by rw [hu, hH]; exact ⟨.c (.inl trivial), by simp⟩)) ?_
    rintro _ _ ⟨_, _, _, ⟨rfl, rfl⟩, hF, hH⟩
    rw [show firstK [0, 0] = 0 from rfl] at hF
    (refine NST hF hH ?_; clear hF hH; rintro rfl rfl)
    refine WE ?_
    exact zo [some 0] (fun _ => [(4, .c (.r va (noRs la))), (5, .c (I at_)), (8, .c (.r v8 (prRs rr))), (10, .c (I (n0 : Nat))), (11, .c (I (n2 : Nat))), (12, .c (I (n1 : Nat))), (14, .p 0 0 0), (15, .c (I 0)), (16, .c (I al)), (47, .c (.r v6 (prRs rj))), (48, .c (I (prRs rj).length)), (49, .c (I k)), (103, .c (B false))]) (fun _ => [.box [.c (T nm), .c (T (stW j.st))]]) (by decide) (ZNL hE) ZCF ZCH (fun _ => ⟨rfl, rfl⟩)
   ·refine WR ?_
    refine zf rfl (zc true (fun g => errsp_a [0, 0] (g (.o 2 0 2 2)) (by simp)) rfl .fn rfl (by decide) (by kernel_rfl) rfl (fun _ => .cons (.frz rfl rfl rfl rfl rfl) .nil) (fun _ _ _ _ ⟨hu, hH⟩ => by rw [hu, hH]; exact ⟨.c (.inl trivial), by simp⟩)) ?_
    rintro _ _ ⟨_, _, _, ⟨rfl, rfl⟩, hF, hH⟩
    rw [show firstK [0, 0] = 0 from rfl] at hF
    (refine NST hF hH ?_; clear hF hH; rintro rfl rfl)
    refine WE ?_
    exact zo [some 0] (fun _ => [(4, .c (.r va (noRs la))), (5, .c (I at_)), (8, .c (.r v8 (prRs rr))), (10, .c (I (n0 : Nat))), (11, .c (I (n2 : Nat))), (12, .c (I (n1 : Nat))), (14, .p 0 0 0), (15, .c (I nl)), (16, .c (I al)), (47, .c (.r v6 (prRs rj))), (48, .c (I (prRs rj).length)), (49, .c (I k)), (103, .c (B false))]) (fun _ => [.box [.c (T nm), .c (T (stW j.st))]]) (by decide) (ZNL hE) ZCF ZCH (fun _ => ⟨rfl, rfl⟩)
  rintro F H ⟨rfl, rfl⟩
  refine ZZ ?_
  refine za rfl ?_
  refine ZZ ?_
  rcases hst with hst | hst | hst
  ·rw [hst] at t0 t1 t2 ⊢
   rw [show (if ((nm, stW 0) : Pr).2 = stW 0 then 1 else 0) = 1 from rfl] at t0
   rw [show (if ((nm, stW 0) : Pr).2 = stW 1 then 1 else 0) = 0 from rfl] at t1
   rw [show (if ((nm, stW 0) : Pr).2 = stW 2 then 1 else 0) = 0 from rfl] at t2
   rw [show stW 0 = [114, 117, 110, 115] from rfl]
   refine WA ?_
   refine ZR ?_
   refine ZA (zV (a := [114, 117, 110, 115]) (b := [114, 117, 110, 115]) (q := true) (by decide) rfl Tryz.underlying9 rfl rfl) ?_
   refine WE ?_
   refine zb rfl ?_
   refine WA ?_
   refine WR ?_
   refine zf rfl (zy1 [0] (fun _ => [.box [.c (T nm), .c (T [114, 117, 110, 115])]]) false (fun _ => hcf _) rfl .fn rfl (by decide) (by kernel_rfl) rfl (fun _ => .cons (.c rfl) (.cons (.fL (.cons (.p rfl) .nil)) .nil)) (by decide) (fun _ => .box rfl (.cons (.c rfl) (.cons (.c rfl) .nil)) .nil) (by simp) (.inl ⟨_, hE, rfl⟩)) ?_
   rintro F1 H1 ⟨_, _, _, _, ⟨rfl, rfl⟩, hF, hH⟩
   (refine NSU hF hH ?_; clear hF hH; rintro rfl rfl)
   refine WE ?_
   rw [hrun2 hst]
   refine za rfl ?_
   refine ZZ ?_
   refine WA ?_
   refine zo [] (fun _ => [(4, .c (.r va (noRs la))), (5, .c (I at_)), (8, .c (.r v8 (prRs rr))), (10, .c (I (n0 + 1 : Nat))), (11, .c (I (n2 : Nat))), (12, .c (I (n1 : Nat))), (47, .c (.r v6 (prRs rj))), (48, .c (I (prRs rj).length)), (49, .c (I (k + 1 : Nat)))]) (fun _ => []) (by decide) (ZNL hE) ZCF (fun _ => .nil) (fun _ => ?_)
   exact ⟨m - 1, by omega, v6, v8, k + 1, n0 + 1, n1, n2, by omega, t0, t1, t2, by omega, by omega, by omega, rfl, rfl⟩
  ·rw [hst] at t0 t1 t2 ⊢
   rw [show (if ((nm, stW 1) : Pr).2 = stW 0 then 1 else 0) = 0 from rfl] at t0
   rw [show (if ((nm, stW 1) : Pr).2 = stW 1 then 1 else 0) = 1 from rfl] at t1
   rw [show (if ((nm, stW 1) : Pr).2 = stW 2 then 1 else 0) = 0 from rfl] at t2
   rw [show stW 1 = [100, 111, 110, 101] from rfl]
   refine WA ?_
   refine ZR ?_
   refine ZA (zV (a := [100, 111, 110, 101]) (b := [114, 117, 110, 115]) (q := false) (by decide) rfl Tryz.underlying9 rfl rfl) ?_
   refine WE ?_
   refine za rfl ?_
   refine ZZ ?_
   refine ZR ?_
   refine ZA (zV (a := [100, 111, 110, 101]) (b := [100, 111, 110, 101]) (q := true) (by decide) rfl Tryz.underlying9 rfl rfl) ?_
   refine WE ?_
   have hna : nl = al := hfin hst
   refine zb rfl ?_
   refine WA ?_
   refine WA ?_
   refine za rfl ?_
   refine ZZ ?_
   refine WA ?_
   refine zo [] (fun _ => [(4, .c (.r va (noRs la))), (5, .c (I at_)), (8, .c (.r v8 (prRs rr))), (10, .c (I (n0 : Nat))), (11, .c (I (n2 : Nat))), (12, .c (I (n1 + 1 : Nat))), (47, .c (.r v6 (prRs rj))), (48, .c (I (prRs rj).length)), (49, .c (I (k + 1 : Nat)))]) (fun _ => []) (by decide) (ZNL hE) ZCF (fun _ => .nil) (fun _ => ?_)
   exact ⟨m - 1, by omega, v6, v8, k + 1, n0, n1 + 1, n2, by omega, t0, t1, t2, by omega, by omega, by omega, rfl, rfl⟩
  ·rw [hst] at t0 t1 t2 ⊢
   rw [show (if ((nm, stW 2) : Pr).2 = stW 0 then 1 else 0) = 0 from rfl] at t0
   rw [show (if ((nm, stW 2) : Pr).2 = stW 1 then 1 else 0) = 0 from rfl] at t1
   rw [show (if ((nm, stW 2) : Pr).2 = stW 2 then 1 else 0) = 1 from rfl] at t2
   rw [show stW 2 = [102, 97, 105, 108, 101, 100] from rfl]
   refine WA ?_
   refine ZR ?_
   refine ZA (zV (a := [102, 97, 105, 108, 101, 100]) (b := [114, 117, 110, 115]) (q := false) (by decide) rfl Tryz.underlying9 rfl rfl) ?_
   refine WE ?_
   refine za rfl ?_
   refine ZZ ?_
   refine ZR ?_
   refine ZA (zV (a := [102, 97, 105, 108, 101, 100]) (b := [100, 111, 110, 101]) (q := false) (by decide) rfl Tryz.underlying9 rfl rfl) ?_
   refine WE ?_
   refine za rfl ?_
   refine ZZ ?_
   refine ZR ?_
   refine ZA (zV (a := [102, 97, 105, 108, 101, 100]) (b := [102, 97, 105, 108, 101, 100]) (q := true) (by decide) rfl Tryz.underlying9 rfl rfl) ?_
   refine WE ?_
   refine zb rfl ?_
   refine WA ?_
   refine WA ?_
   refine zo [] (fun _ => [(4, .c (.r va (noRs la))), (5, .c (I at_)), (8, .c (.r v8 (prRs rr))), (10, .c (I (n0 : Nat))), (11, .c (I (n2 + 1 : Nat))), (12, .c (I (n1 : Nat))), (47, .c (.r v6 (prRs rj))), (48, .c (I (prRs rj).length)), (49, .c (I (k + 1 : Nat)))]) (fun _ => []) (by decide) (ZNL hE) ZCF (fun _ => .nil) (fun _ => ?_)
   exact ⟨m - 1, by omega, v6, v8, k + 1, n0, n1, n2 + 1, by omega, t0, t1, t2, by omega, by omega, by omega, rfl, rfl⟩
 obtain rfl : k = rj.length := by omega
 rw [List.take_length] at hn0 hn1 hn2
 rw [hn2, hn1] at hf1
 rw [hn0] at hc0
 clear hrj hrr hc1 hc2 hn0 hn1 hn2 hjob hrun
 refine ZZ ?_
 by_cases hz : n2 + n1 = 0
 ·rw [if_pos hz] at hf1
  rw [hf1] at hfld
  simp only at hfld
  have hz2 : (n2 : Int) + n1 = 0 := by omega
  have hr0 : (n0 : Int) = (prRs rr).length := by omega
  refine WR ?_
  refine zf rfl (zc false (fun _ => hfld) rfl .fn rfl (by decide) (by kernel_rfl) rfl (fun _ => C0 rfl) (by simp)) ?_
  rintro _ _ ⟨_, _, _, ⟨rfl, rfl⟩, hF, hH⟩
  (refine NST hF hH ?_; clear hF hH; rintro rfl rfl)
  refine WE ?_
  refine WA ?_
  refine zb rfl ?_
  refine WR ?_
  refine G1 rfl ?_
  refine zf rfl (zc false (fun _ => ready_a) rfl .fn rfl (by decide) (by kernel_rfl) rfl (fun _ => C0 rfl) (by simp)) ?_
  rintro _ _ ⟨_, _, _, ⟨rfl, rfl⟩, hF, hH⟩
  (refine NST hF hH ?_; clear hF hH; rintro rfl rfl)
  refine WE ?_
  exact ze [] _ rfl rfl rfl (by decide) (ZNK rfl) (fun _ => .nil) rfl
 ·rw [if_neg hz] at hf1
  rw [hf1] at hfld
  simp only at hfld
  have hdm := div_mul_same n2 (n2 + n1) (by omega)
  have hd1 := div_le n2 (gcdI n2 (n2 + n1 : Nat))
  have hd2 := div_le (n2 + n1) (gcdI n2 (n2 + n1 : Nat))
  generalize (n2 : Int) / (gcdI n2 (n2 + n1 : Nat) : Nat) = q1 at hfld hdm hd1
  generalize ((n2 + n1 : Nat) : Int) / (gcdI n2 (n2 + n1 : Nat) : Nat) = q2 at hfld hdm hd2
  have hb1 : 0 ≤ q1 * ((n2 : Int) + n1) ∧ q1 * ((n2 : Int) + n1) ≤ 4000000000 := ⟨Int.mul_nonneg hd1.1 (by omega), Int.le_trans (Int.mul_le_mul (show q1 ≤ 2000 by omega) (show (n2 : Int) + n1 ≤ 4000 by omega) (by omega) (by omega)) (by decide)⟩
  have hb2 : 0 ≤ q2 * (n2 : Int) ∧ q2 * (n2 : Int) ≤ 4000000000 := ⟨Int.mul_nonneg hd2.1 (by omega), Int.le_trans (Int.mul_le_mul (show q2 ≤ 4000 by omega) (show (n2 : Int) ≤ 2000 by omega) (by omega) (by omega)) (by decide)⟩
  have hdm2 : q1 * ((n2 : Int) + n1) = q2 * (n2 : Int) := by rw [← hdm, Int.natCast_add]
  have hz2 : ¬ (n2 : Int) + n1 = 0 := by omega
  have hr0 : (n0 : Int) = (prRs rr).length := by omega
  refine WR ?_
  refine zf rfl (zc false (fun _ => hfld) rfl .fn rfl (by decide) (by kernel_rfl) rfl (fun _ => C0 rfl) (by simp)) ?_
  rintro _ _ ⟨_, _, _, ⟨rfl, rfl⟩, hF, hH⟩
  (refine NST hF hH ?_; clear hF hH; rintro rfl rfl)
  refine WE ?_
  refine WA ?_
  refine za rfl ?_
  refine ZZ ?_
  refine WR ?_
  refine G1 rfl ?_
  refine zf rfl (zc false (fun _ => ready_a) rfl .fn rfl (by decide) (by kernel_rfl) rfl (fun _ => C0 rfl) (by simp)) ?_
  rintro _ _ ⟨_, _, _, ⟨rfl, rfl⟩, hF, hH⟩
  (refine NST hF hH ?_; clear hF hH; rintro rfl rfl)
  refine WE ?_
  exact ze [] _ rfl rfl rfl (by decide) (ZNK rfl) (fun _ => .nil) rfl
end Go.Proofs.YtcdeonjdipcgpaaGreatDoor
