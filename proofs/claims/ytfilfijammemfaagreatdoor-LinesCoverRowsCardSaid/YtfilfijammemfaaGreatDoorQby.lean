/- The law LinesCoverRows, walked. -/
import Derived.Test.YtfilfijammemfaaGreatDoorQbx
import Derived.Test.YtfilfijammemfaaGreatDoorProg
import Derived.Test.YtfilfijammemfaaGreatDoorQao
import Derived.Test.YtfilfijammemfaaGreatDoorQbj
import Derived.Test.YtfilfijammemfaaGreatDoorQbo
import Derived.Test.YtfilfijammemfaaGreatDoorQbq
import Derived.Test.YtfilfijammemfaaGreatDoorQbd
set_option linter.unusedSimpArgs false
set_option linter.unusedVariables false
namespace Go.Proofs.YtfilfijammemfaaGreatDoor
open Go Go.RowKit
set_option maxRecDepth 100000
def xcall (P : Program) (orc : XCf) : Nat → XCf
 | 0, f, args, H, k => orc f args H k
 | n + 1, f, args, H, k => match orc f args H k with
  | some r => some r
  | none => xenter P (fun N c F H k => xcode P (xcall P orc n) 3000 N none false c F H k) f args H k
theorem callsIn_plain {P : Program} {f : FuncId} {args : Array Value} {w : World} {R : Ending → World → Prop} (h : CallsIn Fence.wide 0 P f args w R) : Calls P f args w R := callsIn_wide.1 h
theorem xcall_ok {P : Program} (hm : P.follows .mixedOrders = true) {orc : XCf} (ho : XCfOk P orc) : ∀ n, XCfOk P (xcall P orc n)
 | 0 => fun f args H k u H' k' h => ho f args H k u H' k' h
 | n + 1 => fun f args H k u H' k' h => by
  unfold xcall at h
  split at h
  ·rename_i r hr
   injection h with h
   subst h
   exact ho f args H k u H' k' hr
  ·intro w0 ρ γ w hH hok
   refine callsIn_plain (xenter_ok (n := 0) h (fun N c F e F' k2 a Q hx hR hQ => ?_) hH hok)
   exact (zc1 hm (xcall_ok hm ho n) 3000 (m := 0) (.inl ⟨rfl, rfl⟩) (fun h => by cases h) hx hR trivial hQ).1
def xnone : XCf := fun _ _ _ _ => none
theorem xnone_ok (P : Program) : XCfOk P xnone := fun f args H k u H' k' h => by cases h
def xrun (P : Program) (orc : XCf) (f : FuncId) : Option Value := match xcall P orc 60 f [] .nil 0 with
 | some (.v u, _, _) => some u
 | _ => none
theorem acalls_of_xrun {P : Program} (hm : P.follows .mixedOrders = true) {orc : XCf} (ho : XCfOk P orc) {f : FuncId} {u : Value} (h : xrun P orc f = some u) : ACalls P f [] [] fun v H => v = .c (.s u) ∧ H = [] := fun S ρ w hp hw => by
 unfold xrun at h
 split at h
 ·rename_i u' H' k' hx
  injection h with h
  subst h
  have hH : XH ⟨w, fun _ => none, []⟩ (fun _ => 0) (fun _ => 0) .nil w := ⟨fun i j o o' h => (by cases h), fun i o h => (by cases h), fun i o h => (by cases h), fun i o h => (by cases h), ⟨Stp.refl _ _, fun B ob h => (by cases h)⟩⟩
  refine (xcall_ok hm ho 60 _ _ _ _ _ _ _ hx _ _ _ w hH trivial).mono ?_
  rintro e w' ⟨ρ', γ', rfl, h1, _, _⟩
  have hρ : ρ = [] := List.eq_nil_of_length_eq_zero hp.len
  subst hρ
  have hst := h1.st
  refine ⟨.c (.s u'), [], [], S, rfl, ⟨rfl, rfl⟩, .c (.s u'), ⟨rfl, fun i i' B h => (by cases h), fun i B h => (by cases h), fun i B h => (by cases h), fun b hb => Nat.lt_of_lt_of_le (hp.sS b hb) hst.size, fun i o h => (by simp at h), PL.none fun _ _ _ => inP_nil⟩, ⟨hst.os, hst.tape, hst.output, hst.size, fun b hb _ => hst.block b hb (fun h => h), hst.drawn⟩, fun b hb => .inl hb, fun i B h => (by cases h), fun i k B h => absurd h inP_nil, fun i hi => (by simp at hi), fun h => (by cases h)⟩
 ·cases h
end Go.Proofs.YtfilfijammemfaaGreatDoor
namespace Go.Proofs.YtfilfijammemfaaGreatDoor
open Go
set_option maxRecDepth 1000000
theorem ready_run : xrun Tryz.prog xnone 23 = some (.bool true) := by kernel_rfl
theorem ready_a : ACalls Tryz.prog 23 [] [] fun u H => u = .c (B true) ∧ H = [] := acalls_of_xrun (by kernel_rfl) (xnone_ok _) (u := .bool true) ready_run
end Go.Proofs.YtfilfijammemfaaGreatDoor
-- NEWM
namespace Go.Proofs.YtfilfijammemfaaGreatDoor
open Go Go.RowKit
set_option maxRecDepth 100000
theorem kerrs_v (l : List Int) (v : Value) (hl : l.length ≤ 1000000) : ACalls Tryz.prog 25 [.c (.r v (nR l))] [] fun u H => u = .c (I (fstN l)) ∧ H = [] := by
 have e1 : (nR l).length = l.length := by simp
 refine ze (N := 15) Tryz.func25 rfl rfl (by simp) fun E hE => ?_
 refine WA ?_
 refine WA ?_
 refine zk (fun m F H => ∃ (k : Nat), m + k = l.length ∧ fstN (l.drop k) = fstN l ∧ F = [(5, .c (.r v (nR l))), (6, .c (I (nR l).length)), (7, .c (I k))] ∧ H = []) ?_ ?_
 ·refine zh [] (fun _ => [(5, .c (.r v (nR l))), (6, .c (I (nR l).length)), (7, .c (I (0 : Nat)))]) (fun _ => _) (by decide) (ZNL hE) ZCF (fun _ => .nil) (fun _ => ?_)
  exact ⟨l.length, 0, by omega, rfl, rfl, rfl⟩
 rintro m F H ⟨k, hk, hf, rfl, rfl⟩
 refine WA ?_
 refine zl rfl (fun hlt => ?_) (fun hge => ?_)
 ·obtain ⟨n, hn⟩ : ∃ n, l[k]? = some n := ⟨_, List.getElem?_eq_getElem (by omega)⟩
  have hrow : (nR l)[k]? = some [I n] := by rw [List.getElem?_map, hn]; rfl
  have hd := fstN_drop hn
  refine WA ?_
  refine WA ?_
  refine zl rfl (fun hv => ?_) (fun hv => ?_)
  ·refine WA ?_
   exact zi [] _ rfl rfl rfl (by decide) (ZNK rfl) (fun _ => .nil) ⟨by rw [← hf, hd, if_neg hv], rfl⟩
  ·refine WA ?_
   refine zh [] (fun _ => [(5, .c (.r v (nR l))), (6, .c (I (nR l).length)), (7, .c (I (k + 1 : Nat)))]) (fun _ => _) (by decide) (ZNL hE) ZCF (fun _ => .nil) (fun _ => ?_)
   exact ⟨m - 1, by omega, k + 1, by omega, by rw [← hf, hd, if_pos (by omega)], rfl, rfl⟩
 refine WA ?_
 exact zi [] _ rfl rfl rfl (by decide) (ZNK rfl) (fun _ => .nil) ⟨by rw [← hf, List.drop_eq_nil_of_le (by omega)]; rfl, rfl⟩
end Go.Proofs.YtfilfijammemfaaGreatDoor
-- NEWM
namespace Go.Proofs.YtfilfijammemfaaGreatDoor
open Go Go.RowKit
set_option maxRecDepth 100000
theorem pa_wy2 (pl : List Pth) : ∃ wl : List Wy, paR pl = wyR wl ∧ wl.length = pl.length ∧ wl.map (fun w => (w.pts, w.cl)) = pl.map Prod.snd ∧ ∀ w ∈ wl, ∃ p ∈ pl, w.pts = p.2.1 := by
 refine ⟨pl.map fun p => ⟨p.1, p.2.1, p.2.2⟩, ?_, by simp, ?_, fun w hw => ?_⟩
 ·rw [wyR, List.map_map]; rfl
 ·rw [List.map_map]; rfl
 ·obtain ⟨p, hp, rfl⟩ := List.mem_map.1 hw
  exact ⟨p, hp, rfl⟩
theorem lnF_0 {c : Cel} (hc : RCel c) {q ph : Int} (hq : q = 0 ∨ q = 1) (hp : -1000 ≤ ph ∧ ph ≤ 1000) : lnF c q 1 ph = 0 := by
 unfold lnF outB
 rw [if_neg (by simpa using celF_0.2 hc), if_neg (by simp; omega), if_neg (by simp; omega)]
def sumL (l : List Pth) : Nat := (l.map fun p => p.2.1.length).sum
theorem sumL_snoc {l : List Pth} {p : Pth} : sumL (l ++ [p]) = sumL l + p.2.1.length := by simp [sumL]
theorem sumL_of {l : List Pth} {S : List (List Spot)} (h : l.map Prod.snd = S.map fun P => (P, false)) : sumL l = (S.map List.length).sum := by
 have : l.map (fun p => p.2.1.length) = S.map List.length := by
  have h2 := congrArg (List.map fun x : List Spot × Bool => x.1.length) h
  rw [List.map_map, List.map_map] at h2
  exact h2
 unfold sumL; rw [this]
theorem sumL_le {M : Nat} {l : List Pth} (h : ∀ p ∈ l, p.2.1.length ≤ M) : ∀ i, sumL (l.take i) ≤ M * i
 | 0 => by simp [sumL]
 | i + 1 => by
  have ih := sumL_le h i
  rw [List.take_add_one]
  cases hx : l[i]? with
  | none => simp only [Option.toList_none, List.append_nil]; rw [Nat.mul_add]; omega
  | some x =>
   have := h x (List.mem_of_getElem? hx)
   rw [show (some x).toList = [x] from rfl, sumL_snoc, Nat.mul_add]; omega
theorem sumL_le2 {M : Nat} {l : List Pth} (h : ∀ p ∈ l, p.2.1.length ≤ M) : sumL l ≤ M * l.length := by
 have := sumL_le h l.length
 rwa [List.take_length] at this
set_option maxHeartbeats 8000000 in
theorem law_rows (v : Value) (zs : List Int) (hs : StrOk zs) : ACalls Tryz.prog 4 [.c (.r v (zs.map fun z => [I z]))] [] fun u H => u = .c (B true) := by
 refine ze (N := 171) Tryz.func4 rfl rfl (by simp) fun E hE => ?_
 refine WA ?_
 refine WA ?_
 refine WR ?_
 refine zf rfl (zp false (fun _ => rightcells_v 10 (by decide) _ _ _ hs (by omega) (by omega)) rfl .fn rfl (by decide) (by kernel_rfl) rfl rfl (fun _g => .cons (.p rfl) (.cons (.c rfl) .nil)) (fun _g => .cons (.c rfl) (.cons (.c rfl) .nil)) (by simp)) ?_
 rintro F1 H1 ⟨_, _, _, _, ⟨vc, c, ac, rfl, hq, hac1, hac2, hcn, hcst⟩, hF, hH⟩
 injection hq with hq1 hq2; subst hq1; subst hq2
 (refine NST hF hH ?_; clear hF hH; rintro rfl rfl)
 refine WE ?_
 have hcl : c.rows.length ≤ 1000000000 := by have := hcn.r.h; omega
 have hcr : ∀ r ∈ c.rows, r.length ≤ 1000000000 := fun r hr => by have := hcn.r.w; rw [(hcn.r.row r hr).1]; omega
 refine WA ?_
 refine zk (fun m F H => ∃ (q : Nat) (a : Int), m + q = 2 ∧ (0 ≤ a ∧ a ≤ 2000 + 100 * q) ∧ F = [(3, .p 0 0 0), (4, .p 1 0 0), (31, .c (I q))] ∧ H = [strm v zs a, celB vc c]) ?_ ?_
 ·refine zh [some 0, some 1] (fun _ => [(3, .p 0 0 0), (4, .p 1 0 0), (31, .c (I (0 : Nat)))]) (fun _ => [strm v zs ac, celB vc c]) (by decide) (ZNL hE) ZCF ZCH (fun _ => ?_)
  exact ⟨2, 0, ac, rfl, by omega, rfl, rfl⟩
 clear hac1 hac2
 rintro m F H ⟨q, a, hm, ha, rfl, rfl⟩
 refine WA ?_
 refine zl rfl (fun hlt => ?_) (fun hge => ?_)
 ·refine WA ?_
  refine ZZ ?_
  refine zg [(0, none), (1, none), (2, none), (3, some [0, 1]), (4, some []), (5, none), (6, none), (7, none), (8, none), (9, none)] zn (by kernel_rfl) ?_
  refine WP ?_
  refine zY rfl rfl (zp false (fun _ => range_a (-3) 3 _ _ _ hs (by omega) (by omega) (by omega) (by omega) (by omega) (by omega)) rfl .fn rfl (by decide) (by kernel_rfl) rfl rfl (fun _g => .cons (.p rfl) (.cons (.c rfl) (.cons (.c rfl) .nil))) (fun _g => .cons (.c rfl) (.cons (.c rfl) .nil)) (by simp)) ?_
  rintro F1 H1 ⟨_, _, _, _, ⟨n, an, rfl, hq, hr3n, hr4n, hr1n, hr2n, _⟩, hF, hH⟩
  injection hq with hq1 hq2; subst hq1; subst hq2
  (refine NST hF hH ?_; clear hF hH; rintro rfl rfl)
  refine ⟨zj (by first | exact zu rfl rfl rfl (ZK (KK (t := 28) rfl)) rfl) (zj (by first | exact zu rfl rfl rfl (zB rfl rfl) rfl) (zm)), ?_⟩
  refine zY rfl rfl (za false (fun _ => (lines_v vc c q 1 n hcl hcr)) rfl .fn rfl (by decide) (by kernel_rfl) rfl (fun _ => C0 rfl) (by simp)) ?_
  rintro _ _ ⟨_, _, _, ⟨v1, l1, rfl, hz1, hy1, rfl⟩, hF, hH⟩
  (refine NST hF hH ?_; clear hF hH; rintro rfl rfl)
  refine ⟨zm, ?_⟩
  refine WQ ?_
  have hq01 : (q : Int) = 0 ∨ (q : Int) = 1 := by omega
  have hl0 := lnF_0 hcn.r hq01 (ph := n) (by have := hr2n (by omega); omega)
  have hl00 := lnF_0 hcn.r hq01 (ph := 0) (by omega)
  obtain ⟨hb11, hb12⟩ := ln_bd hz1 hy1
  have hy1' := hy1 hl0
  rw [hl0]
  obtain ⟨wl, hwl, hwn, hwm, hwp⟩ := pa_wy2 l1
  have hlb := lin_len hcn.r q 1 n
  have hl1n : l1.length ≤ 40000 := by have := congrArg List.length hy1'; simp at this; omega
  have hp1 : ∀ p ∈ l1, p.2.1.length ≤ 2 := fun p hp => by
   have h4 : p.2 ∈ l1.map Prod.snd := List.mem_map_of_mem hp
   rw [hy1'] at h4
   obtain ⟨l, _, hl⟩ := List.mem_map.1 h4
   rw [← hl]
   simp only
   unfold ptsL; split <;> simp
  have hln : wl.length ≤ 1000000 := by omega
  have hlp : ∀ w ∈ wl, w.pts.length ≤ 1000000 := fun w hw => by
   obtain ⟨p, hp, e⟩ := hwp w hw
   have := hp1 p hp
   rw [e]; omega
  have hwf := waysf_v v1 wl hln hlp
  have hcv := covered_v vc v1 c wl hcl hcr hln hlp
  rw [← hwl] at hwf hcv
  have hps : passF c wl = wyF (wl.map (·.pts)) := by unfold passF; rw [if_neg (by simpa using celF_0.2 hcn.r)]
  generalize hpf : wyF (wl.map (·.pts)) = wf at *
  refine WR ?_
  refine G1 rfl ?_
  refine zf rfl (za false (fun _ => hwf) rfl .fn rfl (by decide) (by kernel_rfl) rfl (fun _ => C0 rfl) (by simp)) ?_
  rintro _ _ ⟨_, _, _, ⟨rfl, rfl⟩, hF, hH⟩
  (refine NST hF hH ?_; clear hF hH; rintro rfl rfl)
  refine WE ?_
  refine zl rfl (fun hne => ?_) (fun heq => ?_)
  ·refine WR ?_
   refine G1 rfl ?_
   refine zf rfl (za false (fun _ => ready_a) rfl .fn rfl (by decide) (by kernel_rfl) rfl (fun _ => C0 rfl) (by simp)) ?_
   rintro _ _ ⟨_, _, _, ⟨rfl, rfl⟩, hF, hH⟩
   (refine NST hF hH ?_; clear hF hH; rintro rfl rfl)
   refine WE ?_
   exact zi [] [] rfl rfl rfl (by decide) (ZNK rfl) (fun _ => .nil) rfl
  obtain rfl : wf = 0 := by omega
  have hco : covF c wl = (c, 0) := by
   unfold covF
   rw [if_neg (by simpa using hps)]
   exact cov_lines hcn (by rw [hwm, hy1'])
  rw [hco] at hcv
  refine ZZ ?_
  refine WR ?_
  refine zf rfl (za false (fun _ => hcv) rfl .fn rfl (by decide) (by kernel_rfl) rfl (fun _ => C0 rfl) (by simp)) ?_
  rintro _ _ ⟨_, _, _, ⟨v3, rfl, rfl⟩, hF, hH⟩
  (refine NST hF hH ?_; clear hF hH; rintro rfl rfl)
  refine WE ?_
  refine WR ?_
  refine zf rfl (za false (fun _ => (zigzag_v vc c q 1 0 hcl hcr)) rfl .fn rfl (by decide) (by kernel_rfl) rfl (fun _ => C0 rfl) (by simp)) ?_
  rintro _ _ ⟨_, _, _, ⟨v2, l2, rfl, hz2, hy2, rfl⟩, hF, hH⟩
  (refine NST hF hH ?_; clear hF hH; rintro rfl rfl)
  refine WE ?_
  obtain ⟨hb21, hb22⟩ := zg_bd hz2 hy2
  have hy2' := hy2 hl00
  rw [hl00]
  obtain ⟨hzs1, hzs2⟩ := zig_sum (st := c.st) (q := (q : Int)) (@linG_le (zc c) q 1 0)
  have hS2 : sumL l2 = sumL l1 := by
   rw [sumL_of hy2', hzs1]
   have h2 : sumL l1 = ((linG (zc c) q 1 n).map fun x => (ptsL c.st q x).length).sum := by
    rw [sumL_of (S := (linG (zc c) q 1 n).map (ptsL c.st q)) (by rw [hy1', List.map_map]; rfl), List.map_map]; rfl
   rw [h2, lin_one (ph := n)]
  have hl21 : l2.length ≤ l1.length := by
   have e1 := congrArg List.length hy2'
   have e2 := congrArg List.length hy1'
   simp only [List.length_map] at e1 e2
   rw [lin_one] at e2
   omega
  have hl2n : l2.length ≤ 40000 := by omega
  have hpl1 : ∀ p ∈ l1, p.2.1.length ≤ 2000000 := fun p hp => by have := hp1 p hp; omega
  have hpl2 : ∀ p ∈ l2, p.2.1.length ≤ 2000000 := fun p hp => by
   have h4 : p.2.1.length ≤ sumL l2 := by
    obtain ⟨A, B, rfl⟩ := List.append_of_mem hp
    simp [sumL]; omega
   have h5 := sumL_le hpl1 l1.length
   have h6 : sumL l1 ≤ 2 * l1.length := sumL_le2 hp1
   omega
  obtain ⟨sT, hS⟩ : ∃ S, sumL l1 = S := ⟨_, rfl⟩
  have hS2' : sumL l2 = sT := hS2.trans hS
  have hSb : sT ≤ 80000 := by have := sumL_le2 hp1; omega
  clear hwf hcv hco hps hpf hwl hwn hwm hwp hln hlp hb11 hb12 hb21 hb22 hz1 hz2 hy1 hy2 hy1' hy2' hzs1 hzs2 hS2 hp1
  refine WA ?_
  refine WA ?_
  have el2 : (paR l2).length = l2.length := by simp
  refine aw_loopk 2 (fun m F H => ∃ i, m + i = l2.length ∧ F = [(3, .p 0 0 0), (4, .p 1 0 0), (5, .c (I q)), (6, .c (.r v1 (paR l1))), (8, .p 2 0 0), (9, .c (I 0)), (10, .c (.r v2 (paR l2))), (11, .c (I 0)), (31, .c (I q)), (12, .c (I ((sumL (l2.take i) : Nat)))), (66, .c (.r v2 (paR l2))), (67, .c (I l2.length)), (68, .c (I i))] ∧ H = [strm v zs an, celB vc c, celB v3 c]) (fun F H => F = [(3, .p 0 0 0), (4, .p 1 0 0), (5, .c (I q)), (6, .c (.r v1 (paR l1))), (8, .p 2 0 0), (9, .c (I 0)), (10, .c (.r v2 (paR l2))), (11, .c (I 0)), (31, .c (I q)), (12, .c (I ((sT : Nat))))] ∧ H = [strm v zs an, celB vc c, celB v3 c]) ?_ ?_ ?_ (fun _ _ h => zC1 h fun _ _ h => h)
  ·refine zh [some 0, some 1, some 2] (fun _ => [(3, .p 0 0 0), (4, .p 1 0 0), (5, .c (I q)), (6, .c (.r v1 (paR l1))), (8, .p 2 0 0), (9, .c (I 0)), (10, .c (.r v2 (paR l2))), (11, .c (I 0)), (31, .c (I q)), (12, .c (I ((0 : Nat)))), (66, .c (.r v2 (paR l2))), (67, .c (I (paR l2).length)), (68, .c (I (0 : Nat)))]) (fun _ => [strm v zs an, celB vc c, celB v3 c]) (by decide) (ZNL hE) ZCF ZCH (fun _ => ?_)
   rw [el2]
   exact ⟨l2.length, 0, rfl, by simp [sumL], rfl⟩
  ·rintro m2 F H ⟨i, hm2, rfl, rfl⟩
   have hsi : sumL (l2.take i) ≤ 2000000 * i := sumL_le hpl2 i
   refine WA ?_
   refine zl rfl (fun hlt2 => ?_) (fun hge2 => ?_)
   ·obtain ⟨⟨xv, xp, xc⟩, hx⟩ : ∃ x, l2[i]? = some x := ⟨_, List.getElem?_eq_getElem (by omega)⟩
    have hrow : (paR l2)[i]? = some [.r xv (sR xp), B xc] := by rw [List.getElem?_map, hx]; rfl
    have hxl : (sR xp).length = xp.length := by simp
    have hxp := hpl2 _ (List.mem_of_getElem? hx)
    simp only at hxp
    have htk : sumL (l2.take (i + 1)) = sumL (l2.take i) + xp.length := by rw [List.take_add_one, hx]; exact sumL_snoc
    refine WA ?_
    refine WA ?_
    refine WA ?_
    refine zh [some 0, some 1, some 2] (fun _ => [(3, .p 0 0 0), (4, .p 1 0 0), (5, .c (I q)), (6, .c (.r v1 (paR l1))), (8, .p 2 0 0), (9, .c (I 0)), (10, .c (.r v2 (paR l2))), (11, .c (I 0)), (31, .c (I q)), (12, .c (I ((sumL (l2.take (i + 1)) : Nat)))), (66, .c (.r v2 (paR l2))), (67, .c (I l2.length)), (68, .c (I (i + 1 : Nat)))]) (fun _ => [strm v zs an, celB vc c, celB v3 c]) (by decide) (ZNL hE) (by rw [htk]; rw [show (((sumL (l2.take i) + xp.length : Nat) : Int)) = (sumL (l2.take i) : Nat) + (xp.length : Int) by omega]; exact ZCF) ZCH (fun _ => ?_)
    exact ⟨m2 - 1, by omega, i + 1, by omega, rfl, rfl⟩
   ·obtain rfl : i = l2.length := by omega
    rw [List.take_length, hS2']
    refine ZZ ?_
    refine .inl ⟨rfl, ?_⟩
    refine zh [some 0, some 1, some 2] (fun _ => [(3, .p 0 0 0), (4, .p 1 0 0), (5, .c (I q)), (6, .c (.r v1 (paR l1))), (8, .p 2 0 0), (9, .c (I 0)), (10, .c (.r v2 (paR l2))), (11, .c (I 0)), (31, .c (I q)), (12, .c (I ((sT : Nat))))]) (fun _ => [strm v zs an, celB vc c, celB v3 c]) (by decide) (ZNL hE) ZCF ZCH (fun _ => ⟨rfl, rfl⟩)
  rintro F H ⟨rfl, rfl⟩
  refine ZZ ?_
  refine WA ?_
  have el1 : (paR l1).length = l1.length := by simp
  refine aw_loopk 4 (fun m F H => ∃ i, m + i = l1.length ∧ F = [(3, .p 0 0 0), (4, .p 1 0 0), (5, .c (I q)), (6, .c (.r v1 (paR l1))), (8, .p 2 0 0), (9, .c (I 0)), (10, .c (.r v2 (paR l2))), (11, .c (I 0)), (31, .c (I q)), (12, .c (I (((sT : Nat) : Int) - (sumL (l1.take i) : Nat)))), (78, .c (.r v1 (paR l1))), (79, .c (I l1.length)), (80, .c (I i))] ∧ H = [strm v zs an, celB vc c, celB v3 c]) (fun F H => F = [(3, .p 0 0 0), (4, .p 1 0 0), (5, .c (I q)), (6, .c (.r v1 (paR l1))), (8, .p 2 0 0), (9, .c (I 0)), (10, .c (.r v2 (paR l2))), (11, .c (I 0)), (31, .c (I q)), (12, .c (I (0)))] ∧ H = [strm v zs an, celB vc c, celB v3 c]) ?_ ?_ ?_ (fun _ _ h => zC1 h fun _ _ h => h)
  ·refine zh [some 0, some 1, some 2] (fun _ => [(3, .p 0 0 0), (4, .p 1 0 0), (5, .c (I q)), (6, .c (.r v1 (paR l1))), (8, .p 2 0 0), (9, .c (I 0)), (10, .c (.r v2 (paR l2))), (11, .c (I 0)), (31, .c (I q)), (12, .c (I (((sT : Nat) : Int)))), (78, .c (.r v1 (paR l1))), (79, .c (I (paR l1).length)), (80, .c (I (0 : Nat)))]) (fun _ => [strm v zs an, celB vc c, celB v3 c]) (by decide) (ZNL hE) ZCF ZCH (fun _ => ?_)
   rw [el1]
   exact ⟨l1.length, 0, rfl, by simp [sumL], rfl⟩
  ·rintro m2 F H ⟨i, hm2, rfl, rfl⟩
   have hsi : sumL (l1.take i) ≤ 2000000 * i := sumL_le hpl1 i
   refine WA ?_
   refine zl rfl (fun hlt2 => ?_) (fun hge2 => ?_)
   ·obtain ⟨⟨xv, xp, xc⟩, hx⟩ : ∃ x, l1[i]? = some x := ⟨_, List.getElem?_eq_getElem (by omega)⟩
    have hrow : (paR l1)[i]? = some [.r xv (sR xp), B xc] := by rw [List.getElem?_map, hx]; rfl
    have hxl : (sR xp).length = xp.length := by simp
    have hxp := hpl1 _ (List.mem_of_getElem? hx)
    simp only at hxp
    have htk : sumL (l1.take (i + 1)) = sumL (l1.take i) + xp.length := by rw [List.take_add_one, hx]; exact sumL_snoc
    refine WA ?_
    refine WA ?_
    refine WA ?_
    refine zh [some 0, some 1, some 2] (fun _ => [(3, .p 0 0 0), (4, .p 1 0 0), (5, .c (I q)), (6, .c (.r v1 (paR l1))), (8, .p 2 0 0), (9, .c (I 0)), (10, .c (.r v2 (paR l2))), (11, .c (I 0)), (31, .c (I q)), (12, .c (I (((sT : Nat) : Int) - (sumL (l1.take (i + 1)) : Nat)))), (78, .c (.r v1 (paR l1))), (79, .c (I l1.length)), (80, .c (I (i + 1 : Nat)))]) (fun _ => [strm v zs an, celB vc c, celB v3 c]) (by decide) (ZNL hE) (by rw [htk]; rw [show ((sT : Nat) : Int) - ((sumL (l1.take i) + xp.length : Nat) : Int) = ((sT : Nat) : Int) - (sumL (l1.take i) : Nat) - (xp.length : Int) by omega]; exact ZCF) ZCH (fun _ => ?_)
    exact ⟨m2 - 1, by omega, i + 1, by omega, rfl, rfl⟩
   ·obtain rfl : i = l1.length := by omega
    rw [List.take_length, hS]
    refine ZZ ?_
    refine .inl ⟨rfl, ?_⟩
    refine zh [some 0, some 1, some 2] (fun _ => [(3, .p 0 0 0), (4, .p 1 0 0), (5, .c (I q)), (6, .c (.r v1 (paR l1))), (8, .p 2 0 0), (9, .c (I 0)), (10, .c (.r v2 (paR l2))), (11, .c (I 0)), (31, .c (I q)), (12, .c (I (0)))]) (fun _ => [strm v zs an, celB vc c, celB v3 c]) (by decide) (ZNL hE) (by rw [show ((sT : Nat) : Int) - (sT : Nat) = 0 by omega]; exact ZCF) ZCH (fun _ => ⟨rfl, rfl⟩)
  rintro F H ⟨rfl, rfl⟩
  refine ZZ ?_
  have hgt : ¬ ((paR l1).length : Int) < ((paR l2).length : Int) := by omega
  refine WR ?_
  refine zf rfl (za true (fun g => kerrs_v [0, 0] (g (.o 3 0 2 2)) (by simp)) rfl .fn rfl (by decide) (by kernel_rfl) rfl (fun _ => .cons (.frz rfl rfl rfl rfl rfl) .nil) (fun _ _ _ _ ⟨hu, hH⟩ => by rw [hu, hH]; exact ⟨.c (.inl trivial), by simp⟩)) ?_
  rintro _ _ ⟨_, _, _, ⟨rfl, rfl⟩, hF, hH⟩
  rw [(show fstN [0, 0] = 0 from rfl)] at hF
  (refine NST hF hH ?_; clear hF hH; rintro rfl rfl)
  refine WO ?_
  refine G1 rfl ?_
  refine zf rfl (za false (fun _ => samec_v v3 vc c hcl) rfl .fn rfl (by decide) (by kernel_rfl) rfl (fun _ => C0 rfl) (by simp)) ?_
  rintro _ _ ⟨_, _, _, ⟨rfl, rfl⟩, hF, hH⟩
  (refine NST hF hH ?_; clear hF hH; rintro rfl rfl)
  refine WE ?_
  refine zd rfl ?_
  refine ZZ ?_
  refine WA ?_
  refine zh [some 0, some 1] (fun _ => [(3, .p 0 0 0), (4, .p 1 0 0), (31, .c (I (q + 1 : Nat)))]) (fun _ => [strm v zs an, celB vc c]) (by decide) (ZNL hE) ZCF ZCH (fun _ => ?_)
  exact ⟨m - 1, by omega, q + 1, an, by omega, by omega, rfl, rfl⟩
 ·refine ZZ ?_
  refine WR ?_
  refine zf rfl (zp false (fun _ => ways_v vc c hcl hcr _ _ _ hs (by omega) (by omega)) rfl .fn rfl (by decide) (by kernel_rfl) rfl rfl (fun _g => .cons (.p rfl) (.cons (.aL (C0 rfl)) .nil)) (fun _g => .cons (.c rfl) (.cons (.c rfl) .nil)) (by simp)) ?_
  rintro F1 H1 ⟨_, _, _, _, ⟨vw, pl, aw, rfl, hq, haw1, haw2, hpl, hpp⟩, hF, hH⟩
  injection hq with hq1 hq2; subst hq1; subst hq2
  (refine NST hF hH ?_; clear hF hH; rintro rfl rfl)
  refine WE ?_
  obtain ⟨wl, hwl, hwn, hwm, hwp⟩ := pa_wy2 pl
  rw [hwl]
  have hln : wl.length ≤ 1000000 := by omega
  have hlp : ∀ w ∈ wl, w.pts.length ≤ 1000000 := fun w hw => by
   obtain ⟨p, hp, e⟩ := hwp w hw
   have := hpp p hp
   rw [e]; omega
  refine zC1 (zh (K := fun F H => F = [(4, .p 0 0 0), (17, .c (.r vw (wyR wl)))] ∧ H = [celB vc c]) [some 1] (fun _ => [(4, .p 0 0 0), (17, .c (.r vw (wyR wl)))]) (fun _ => [celB vc c]) (by decide) (ZNL hE) ZCF ZCH (fun _ => ⟨rfl, rfl⟩)) ?_
  rintro F H ⟨rfl, rfl⟩
  have hcv := covered_v vc vw c wl hcl hcr hln hlp
  have hlf := left_v vc vw c wl hcl hcr hln hlp
  have hwf := waysf_v vw wl hln hlp
  have hps : passF c wl = wyF (wl.map (·.pts)) := by unfold passF; rw [if_neg (by simpa using celF_0.2 hcn.r)]
  have hcl2 := cov_lef hcn wl
  have s1 : ∀ p ∈ covT wl c, p ∈ covL c := fun _ hp => (List.mem_filter.1 hp).1
  have s2 : ∀ p ∈ lefT wl c, p ∈ covL c := fun _ hp => (List.mem_filter.1 hp).1
  have n1 := normC_ok hcn s1
  have n2 := normC_ok hcn s2
  have hs1 : (celN c.st (covT wl c)).st = c.st := celN_st _ _
  have hs2 : (celN c.st (lefT wl c)).st = c.st := celN_st _ _
  have hcF : covF c wl = if passF c wl ≠ 0 then (⟨0, 0, 0, []⟩, passF c wl) else (celN c.st (covT wl c), 0) := by unfold covF; rw [n1.1]
  have hlF : lefF c wl = if passF c wl ≠ 0 then (⟨0, 0, 0, []⟩, passF c wl) else (celN c.st (lefT wl c), 0) := by unfold lefF; rw [n2.1]
  replace n1 := n1.2
  replace n2 := n2.2
  rw [hcF] at hcv
  rw [hlF] at hlf
  clear hcF hlF s1 s2 hwl hwn hwm hwp hpp
  rw [← hps] at hwf
  generalize passF c wl = pf at *
  generalize celN c.st (covT wl c) = A at *
  generalize celN c.st (lefT wl c) = B at *
  by_cases hz : pf = 0
  ·subst hz
   rw [if_neg (by simp)] at hcv hlf
   refine WR ?_
   refine zf rfl (za false (fun _ => hcv) rfl .fn rfl (by decide) (by kernel_rfl) rfl (fun _ => C0 rfl) (by simp)) ?_
   rintro _ _ ⟨_, _, _, ⟨v1, rfl, rfl⟩, hF, hH⟩
   (refine NST hF hH ?_; clear hF hH; rintro rfl rfl)
   refine WE ?_
   refine WR ?_
   refine zf rfl (za false (fun _ => hlf) rfl .fn rfl (by decide) (by kernel_rfl) rfl (fun _ => C0 rfl) (by simp)) ?_
   rintro _ _ ⟨_, _, _, ⟨v2, rfl, rfl⟩, hF, hH⟩
   (refine NST hF hH ?_; clear hF hH; rintro rfl rfl)
   refine WE ?_
   refine WR ?_
   refine zf rfl (za true (fun g => kerrs_v [0, 0] (g (.o 3 0 2 2)) (by simp)) rfl .fn rfl (by decide) (by kernel_rfl) rfl (fun _ => .cons (.frz rfl rfl rfl rfl rfl) .nil) (fun _ _ _ _ ⟨hu, hH⟩ => by rw [hu, hH]; exact ⟨.c (.inl trivial), by simp⟩)) ?_
   rintro _ _ ⟨_, _, _, ⟨rfl, rfl⟩, hF, hH⟩
   rw [(show fstN [0, 0] = 0 from rfl)] at hF
   (refine NST hF hH ?_; clear hF hH; rintro rfl rfl)
   refine WE ?_
   refine zd rfl ?_
   refine ZZ ?_
   refine WR ?_
   refine zf rfl (za false (fun _ => (unionr_v v1 v2 A B c n1 n2 (by rw [hs1, hs2]) (by rw [hs1]; exact hcl2.1))) rfl .fn rfl (by decide) (by kernel_rfl) rfl (fun _ => C0 rfl) (by simp)) ?_
   rintro _ _ ⟨_, _, _, ⟨v3, rfl, rfl⟩, hF, hH⟩
   (refine NST hF hH ?_; clear hF hH; rintro rfl rfl)
   refine WE ?_
   refine WR ?_
   refine zf rfl (za false (fun _ => (bothr_v v1 v2 A B ⟨c.st, 0, 0, []⟩ n1 n2 (by rw [hs1, hs2]) (by rw [hs1]; exact hcl2.2))) rfl .fn rfl (by decide) (by kernel_rfl) rfl (fun _ => C0 rfl) (by simp)) ?_
   rintro _ _ ⟨_, _, _, ⟨v4, rfl, rfl⟩, hF, hH⟩
   (refine NST hF hH ?_; clear hF hH; rintro rfl rfl)
   refine WE ?_
   refine zC1 (zh (K := fun F H => F = [(4, .p 0 0 0), (22, .p 1 0 0), (23, .c (I 0)), (24, .p 2 0 0), (25, .c (I 0))] ∧ H = [celB vc c, celB v3 c, celB v4 ⟨c.st, 0, 0, []⟩]) [some 0, some 4, some 5] (fun _ => [(4, .p 0 0 0), (22, .p 1 0 0), (23, .c (I 0)), (24, .p 2 0 0), (25, .c (I 0))]) (fun _ => [celB vc c, celB v3 c, celB v4 ⟨c.st, 0, 0, []⟩]) (by decide) (ZNL hE) ZCF ZCH (fun _ => ⟨rfl, rfl⟩)) ?_
   rintro _ _ ⟨rfl, rfl⟩
   refine WR ?_
   refine zf rfl (za true (fun g => kerrs_v [0, 0] (g (.o 3 0 2 2)) (by simp)) rfl .fn rfl (by decide) (by kernel_rfl) rfl (fun _ => .cons (.frz rfl rfl rfl rfl rfl) .nil) (fun _ _ _ _ ⟨hu, hH⟩ => by rw [hu, hH]; exact ⟨.c (.inl trivial), by simp⟩)) ?_
   rintro _ _ ⟨_, _, _, ⟨rfl, rfl⟩, hF, hH⟩
   rw [(show fstN [0, 0] = 0 from rfl)] at hF
   (refine NST hF hH ?_; clear hF hH; rintro rfl rfl)
   refine WO ?_
   refine G1 rfl ?_
   refine zf rfl (za false (fun _ => samec_v v3 vc c hcl) rfl .fn rfl (by decide) (by kernel_rfl) rfl (fun _ => C0 rfl) (by simp)) ?_
   rintro _ _ ⟨_, _, _, ⟨rfl, rfl⟩, hF, hH⟩
   (refine NST hF hH ?_; clear hF hH; rintro rfl rfl)
   refine WO ?_
   refine G1 rfl ?_
   refine zf rfl (za false (fun _ => ready_a) rfl .fn rfl (by decide) (by kernel_rfl) rfl (fun _ => C0 rfl) (by simp)) ?_
   rintro _ _ ⟨_, _, _, ⟨rfl, rfl⟩, hF, hH⟩
   (refine NST hF hH ?_; clear hF hH; rintro rfl rfl)
   refine WE ?_
   exact zi [] [] rfl rfl rfl (by decide) (ZNK rfl) (fun _ => .nil) rfl
  ·rw [if_pos hz] at hcv hlf
   have hfs : fstN [pf, pf] = pf := by simp [fstN, hz]
   refine WR ?_
   refine zf rfl (za false (fun _ => hcv) rfl .fn rfl (by decide) (by kernel_rfl) rfl (fun _ => C0 rfl) (by simp)) ?_
   rintro _ _ ⟨_, _, _, ⟨v1, rfl, rfl⟩, hF, hH⟩
   (refine NST hF hH ?_; clear hF hH; rintro rfl rfl)
   refine WE ?_
   refine WR ?_
   refine zf rfl (za false (fun _ => hlf) rfl .fn rfl (by decide) (by kernel_rfl) rfl (fun _ => C0 rfl) (by simp)) ?_
   rintro _ _ ⟨_, _, _, ⟨v2, rfl, rfl⟩, hF, hH⟩
   (refine NST hF hH ?_; clear hF hH; rintro rfl rfl)
   refine WE ?_
   refine WR ?_
   refine zf rfl (za true (fun g => kerrs_v [pf, pf] (g (.o 3 0 2 2)) (by simp)) rfl .fn rfl (by decide) (by kernel_rfl) rfl (fun _ => .cons (.frz rfl rfl rfl rfl rfl) .nil) (fun _ _ _ _ ⟨hu, hH⟩ => by rw [hu, hH]; exact ⟨.c (.inl trivial), by simp⟩)) ?_
   rintro _ _ ⟨_, _, _, ⟨rfl, rfl⟩, hF, hH⟩
   rw [hfs] at hF
   (refine NST hF hH ?_; clear hF hH; rintro rfl rfl)
   refine WE ?_
   refine zb rfl ?_
   have z1 : pf = pf := rfl
   refine WR ?_
   refine zf rfl (za false (fun _ => hwf) rfl .fn rfl (by decide) (by kernel_rfl) rfl (fun _ => C0 rfl) (by simp)) ?_
   rintro _ _ ⟨_, _, _, ⟨rfl, rfl⟩, hF, hH⟩
   (refine NST hF hH ?_; clear hF hH; rintro rfl rfl)
   refine WO ?_
   refine G1 rfl ?_
   refine zf rfl (za false (fun _ => ready_a) rfl .fn rfl (by decide) (by kernel_rfl) rfl (fun _ => C0 rfl) (by simp)) ?_
   rintro _ _ ⟨_, _, _, ⟨rfl, rfl⟩, hF, hH⟩
   (refine NST hF hH ?_; clear hF hH; rintro rfl rfl)
   refine WE ?_
   exact zi [] [] rfl rfl rfl (by decide) (ZNK rfl) (fun _ => .nil) rfl
end Go.Proofs.YtfilfijammemfaaGreatDoor
