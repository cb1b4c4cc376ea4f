/- The document's books, by value: what a note does. -/
import Derived.Test.YtcdeonjdipcgpaaGreatDoorQbn
import Derived.Test.YtcdeonjdipcgpaaGreatDoorQbk
import Derived.Test.YtcdeonjdipcgpaaGreatDoorQba
set_option linter.unusedSimpArgs false
set_option linter.unusedVariables false
-- NEWM
namespace Go.Proofs.YtcdeonjdipcgpaaGreatDoor
open Go Go.RowKit
set_option maxRecDepth 100000
theorem mapA_set {f : Jx → Jx} {X : List Jx} {k : Nat} {x : Jx} (h : X[k]? = some x) : ((X.map jbA).set k .out).set k (jbA (f x)) = (X.modify k f).map jbA := by
 rw [List.set_set]
 refine List.ext_getElem? fun i => ?_
 rw [List.getElem?_set, List.getElem?_map, List.getElem?_map, List.getElem?_modify, List.length_map]
 by_cases hki : k = i
 ·subst hki
  rw [h]
  simp [(List.getElem?_eq_some_iff.1 h).1]
 ·cases X[i]? <;> simp [hki]
theorem mapA_same {f : Jx → Jx} (hf : ∀ x, jbA (f x) = jbA x) {X : List Jx} {k : Nat} : X.map jbA = (X.modify k f).map jbA := (zZ2 hf X k).symm
theorem zY3 {f : Jx → Jx} {g : Jb → Jb} (h : ∀ x, (f x).1 = g x.1) {X : List Jx} {k : Nat} : jxs (X.modify k f) = (jxs X).modify k g := by
 refine List.ext_getElem? fun i => ?_
 rw [List.getElem?_map, List.getElem?_modify, List.getElem?_modify, List.getElem?_map]
 cases X[i]? with
 | none => rfl
 | some x => by_cases hki : k = i <;> simp [hki, h]
set_option maxHeartbeats 8000000 in
theorem do_v (X : List Jx) (bl : List Nat) (sp : List (Nat × List UInt8 × List UInt8)) (spk : Nat) (lf : List (Nat × List UInt8 × Int)) (lfk : Nat) (us : List (Nat × List UInt8 × Int)) (usk : Nat) (c1 c2 : Nat) (R1 R2 : List Int) (x : Nt) (hJ : JsOk (jxs X)) (hbl : bl.length = X.length) (hsp : MapOk sp spk) (hlm : MapOk lf lfk) (hum : MapOk us usk) (hS : SpB lf us) (hn0 : x.kd = 6 → 0 ≤ x.n ∧ x.n ≤ 100000000) : ACallsX true Tryz.prog 116 [.p 0 0 0, noA x] [.box [.mp 1, .mp 2, .mp 3, .mp 4, .o 5 0 (R1).length c1, .o 6 0 (R2).length c2], mSP (jlF 0 (jxs X) bl) (X).length, mSS sp spk, mSI lf lfk, mSI us usk, .arr 3 1 c1 (nR (R1)), .arr 32 1 c2 (nR (R2)), .pool (plF jbQ X bl), .pool (X.map jbA)] fun u H => ∃ (X' : List Jx) (bl' : List Nat) (b : Bk), u = .c (I (rfE ⟨jxs X, sp, spk, lf, lfk, us, usk⟩ x)) ∧ b = (if rfE ⟨jxs X, sp, spk, lf, lfk, us, usk⟩ x = 0 then ntS ⟨jxs X, sp, spk, lf, lfk, us, usk⟩ x else ⟨jxs X, sp, spk, lf, lfk, us, usk⟩) ∧ b.js = jxs X' ∧ bl'.length = X'.length ∧ H = [.box [.mp 1, .mp 2, .mp 3, .mp 4, .o 5 0 (R1).length c1, .o 6 0 (R2).length c2], mSP (jlF 0 (jxs X') bl') (X').length, mSS b.sp b.spk, mSI b.lf b.lfk, mSI b.us b.usk, .arr 3 1 c1 (nR (R1)), .arr 32 1 c2 (nR (R2)), .pool (plF jbQ X' bl'), .pool (X'.map jbA)] := by
 obtain ⟨st, no, at_, kn, pr, jb, sn, n, of_, ot⟩ := x
 simp only at hn0
 show ACallsX _ _ _ [.p 0 0 0, .a [.c (T st), .c (I no), .c (I at_), .c (I kn), .c (T pr), .c (T jb), .c (T sn), .c (I n), .c (T of_), .c (I ot)]] _ _
 have hpx : PoolIx 7 := ⟨trivial⟩
 have hbj : bl.length = (jxs X).length := by rw [hbl, List.length_map]
 refine zY true (N := 204) Tryz.func116 rfl rfl (by simp) fun E hE hP => ?_
 refine WA ?_
 rcases hrun : runI (jxs X) pr with _ | k
 ·have hrp : runP (jxs X) bl pr = .pointer none := by unfold runP; rw [hrun]
  refine WR ?_
  refine zf rfl (zW [0, 1, 2, 3, 4, 5, 6, 7, 8] (fun _ => [.box [.mp 1, .mp 2, .mp 3, .mp 4, .o 5 0 (R1).length c1, .o 6 0 (R2).length c2], mSP (jlF 0 (jxs X) bl) (X).length, mSS sp spk, mSI lf lfk, mSI us usk, .arr 3 1 c1 (nR (R1)), .arr 32 1 c2 (nR (R2)), .pool (plF jbQ X bl), .pool (X.map jbA)]) false (fun _ => running_v X bl sp spk lf lfk us usk c1 c2 R1 R2 pr hJ hbl) rfl .fn rfl (by decide) (by kernel_rfl) rfl ZCH (by decide) ZCH (by simp)) ?_
  rintro F1 H1 ⟨_, _, _, _, ⟨rfl, rfl⟩, hF, hH⟩
  rw [zF] at hF; rw [hrp] at hF; (refine NSU hF hH ?_; clear hF hH; rintro rfl rfl)
  refine WE ?_
  refine WA ?_
  by_cases h1 : kn = 1
  ·subst h1
   refine WA ?_
   refine zb rfl ?_
   refine ZZ ?_
   rcases hnj : nmI (jxs X) jb with _ | q
   ·have hjb1 : (mget (jlF 0 (jxs X) bl) jb).getD (.pointer none) = .pointer none := by rw [zZ1 hbj hnj]; rfl
    have hjb2 : (mget (jlF 0 (jxs X) bl) jb).isSome = false := by rw [zZ1 hbj hnj]; rfl
    refine ZZ ?_
    refine zg [(0, none), (1, none), (2, none), (3, none), (4, none), (5, none), (6, none), (7, none), (8, none), (9, none), (10, none), (11, none)] zm (by kernel_rfl) ?_
    iterate 6 refine WX2 ?_
    refine ZT rfl (rd_lkJ2 (k := jb) (l := (jlF 0 (jxs X) bl)) hjb1 hjb2 rfl rfl rfl rfl) ?_
    refine WQ ?_
    refine WA ?_
    refine za rfl ?_
    refine ZZ ?_
    refine WA ?_
    refine za rfl ?_
    refine ZZ ?_
    refine zg [(0, none), (1, none), (2, none), (3, none), (4, none), (5, none), (6, none), (7, none), (8, none), (9, none), (10, none), (11, none), (12, none), (13, some [0, 1, 2, 3, 4, 5]), (14, some [])] zm (by kernel_rfl) ?_
    iterate 14 refine WX2 ?_
    first | refine al_ghostp (i := 46) rfl fun B3 => ?_ | refine at_ghostp (i := 46) rfl fun B3 => ?_ | refine am_ghostp (i := 46) rfl fun B3 => ?_
    refine zh1 rfl rfl (ef_muJ2 (k := jb) (l := jlF 0 (jxs X) bl) (z := ptrV B3) rfl rfl rfl rfl rfl rfl) ?_
    rintro _ _ ⟨rfl, rfl⟩
    refine ⟨zk, ?_⟩
    refine WQ ?_
    refine zB3 (wk_rawcell (K := fun F' H' => F' = _ ∧ H' = _) 10 2 rfl rfl ⟨rfl, rfl⟩) ?_
    rintro _ _ ⟨rfl, rfl⟩
    refine zB3 (wk_pute (K := fun F' H' => ∃ g, F' = killF g [10] _ ∧ H' = ((List.map (killO g [10]) _).set 10 .dead).set 7 _) (b := 10) (q := 11) (p := 7) (.bx (ptrV B3) (jbQ ((⟨jb, pr, 0, [], n, at_, 0⟩ : Jb), (none : Option Addr), (0 : Nat)))) rfl rfl (by simp) rfl ⟨_, hE, rfl⟩ (fun g hg => ⟨g, rfl, rfl⟩)) ?_
    rintro _ _ ⟨gg, rfl, rfl⟩
    have hmj := zZ1 hbj hnj
    have hxs : jxs (X ++ [((⟨jb, pr, 0, [], n, at_, 0⟩ : Jb), (none : Option Addr), (0 : Nat))]) = jxs X ++ [⟨jb, pr, 0, [], n, at_, 0⟩] := List.map_append
    have hpl : plF jbQ X bl ++ [.bx (ptrV B3) (jbQ ((⟨jb, pr, 0, [], n, at_, 0⟩ : Jb), (none : Option Addr), (0 : Nat)))] = plF jbQ (X ++ [((⟨jb, pr, 0, [], n, at_, 0⟩ : Jb), (none : Option Addr), (0 : Nat))]) (bl ++ [B3]) := (plF_snoc hbl).symm
    have hjl : mset X.length jb (ptrV B3) (jlF 0 (jxs X) bl) = jlF 0 (jxs (X ++ [((⟨jb, pr, 0, [], n, at_, 0⟩ : Jb), (none : Option Addr), (0 : Nat))])) (bl ++ [B3]) := by rw [zU1 hmj, hxs, jlF_snoc hbj, Nat.zero_add, List.length_map]
    have hck : mclk X.length jb (jlF 0 (jxs X) bl) = (X ++ [((⟨jb, pr, 0, [], n, at_, 0⟩ : Jb), (none : Option Addr), (0 : Nat))]).length := by rw [mclk, hmj]; simp
    have hpa : X.map jbA ++ [.ar (.slice none 0 0) 0 0 3 1 0 []] = (X ++ [((⟨jb, pr, 0, [], n, at_, 0⟩ : Jb), (none : Option Addr), (0 : Nat))]).map jbA := by rw [List.map_append]; rfl
    refine zB3 (zn (K := fun F H => F = [] ∧ H = [.box [.mp 1, .mp 2, .mp 3, .mp 4, .o 5 0 (R1).length c1, .o 6 0 (R2).length c2], mSP (jlF 0 (jxs (X ++ [((⟨jb, pr, 0, [], n, at_, 0⟩ : Jb), (none : Option Addr), (0 : Nat))])) (bl ++ [B3])) ((X ++ [((⟨jb, pr, 0, [], n, at_, 0⟩ : Jb), (none : Option Addr), (0 : Nat))])).length, mSS sp spk, mSI lf lfk, mSI us usk, .arr 3 1 c1 (nR (R1)), .arr 32 1 c2 (nR (R2)), .pool (plF jbQ (X ++ [((⟨jb, pr, 0, [], n, at_, 0⟩ : Jb), (none : Option Addr), (0 : Nat))]) (bl ++ [B3])), .pool (X.map jbA)]) [some 0, some 1, some 2, some 3, some 4, some 5, some 6, some 7, some 8] (fun _ => []) (fun _ => [.box [.mp 1, .mp 2, .mp 3, .mp 4, .o 5 0 (R1).length c1, .o 6 0 (R2).length c2], mSP (jlF 0 (jxs (X ++ [((⟨jb, pr, 0, [], n, at_, 0⟩ : Jb), (none : Option Addr), (0 : Nat))])) (bl ++ [B3])) ((X ++ [((⟨jb, pr, 0, [], n, at_, 0⟩ : Jb), (none : Option Addr), (0 : Nat))])).length, mSS sp spk, mSI lf lfk, mSI us usk, .arr 3 1 c1 (nR (R1)), .arr 32 1 c2 (nR (R2)), .pool (plF jbQ (X ++ [((⟨jb, pr, 0, [], n, at_, 0⟩ : Jb), (none : Option Addr), (0 : Nat))]) (bl ++ [B3])), .pool (X.map jbA)]) (by decide) (ZNL hE) (fun _ => .nil) (by rw [← hjl, ← hck, ← hpl]; exact ZCH) (fun _ => ⟨rfl, rfl⟩)) ?_
    rintro _ _ ⟨rfl, rfl⟩
    refine zB3 (wk_nilarr (K := fun F' H' => F' = _ ∧ H' = _) 3 1 ⟨rfl, rfl⟩) ?_
    rintro _ _ ⟨rfl, rfl⟩
    refine zB3 (wk_pute (K := fun F' H' => ∃ g, F' = killF g [9] _ ∧ H' = ((List.map (killO g [9]) _).set 9 .dead).set 8 _) (b := 9) (q := 10) (p := 8) (.ar (.slice none 0 0) 0 0 3 1 0 []) rfl rfl (by simp) rfl ⟨_, hE, rfl⟩ (fun g hg => ⟨g, rfl, rfl⟩)) ?_
    rintro _ _ ⟨gg2, rfl, rfl⟩
    rw [hpa]
    refine WA ?_
    have hre : rfE ⟨jxs X, sp, spk, lf, lfk, us, usk⟩ ⟨st, no, at_, 1, pr, jb, sn, n, of_, ot⟩ = 0 := by simp [rfE, runJ, hrun, hnj]
    exact ze [some 0, some 1, some 2, some 3, some 4, some 5, some 6, some 7, some 8] [.box [.mp 1, .mp 2, .mp 3, .mp 4, .o 5 0 (R1).length c1, .o 6 0 (R2).length c2], mSP (jlF 0 (jxs (X ++ [((⟨jb, pr, 0, [], n, at_, 0⟩ : Jb), (none : Option Addr), (0 : Nat))])) (bl ++ [B3])) ((X ++ [((⟨jb, pr, 0, [], n, at_, 0⟩ : Jb), (none : Option Addr), (0 : Nat))])).length, mSS sp spk, mSI lf lfk, mSI us usk, .arr 3 1 c1 (nR (R1)), .arr 32 1 c2 (nR (R2)), .pool (plF jbQ (X ++ [((⟨jb, pr, 0, [], n, at_, 0⟩ : Jb), (none : Option Addr), (0 : Nat))]) (bl ++ [B3])), .pool ((X ++ [((⟨jb, pr, 0, [], n, at_, 0⟩ : Jb), (none : Option Addr), (0 : Nat))]).map jbA)] rfl rfl rfl (by decide) (ZNK rfl) ZCH ⟨(X ++ [((⟨jb, pr, 0, [], n, at_, 0⟩ : Jb), (none : Option Addr), (0 : Nat))]), bl ++ [B3], _, by rw [hre], by rw [hre, if_pos rfl], by simp [ntS, hxs], by simp [hbl], by simp [ntS]⟩
   ·obtain ⟨bq, hbq1, hbq2⟩ := zc3 hbj hnj
    have hjb1 : (mget (jlF 0 (jxs X) bl) jb).getD (.pointer none) = ptrV bq := by rw [hbq2]; rfl
    have hjb2 : (mget (jlF 0 (jxs X) bl) jb).isSome = true := by rw [hbq2]; rfl
    refine ZZ ?_
    refine zg [(0, none), (1, none), (2, none), (3, none), (4, none), (5, none), (6, none), (7, none), (8, none), (9, none), (10, none), (11, none)] zm (by kernel_rfl) ?_
    iterate 6 refine WX2 ?_
    refine ZT rfl (rd_lkJ2 (k := jb) (l := (jlF 0 (jxs X) bl)) hjb1 hjb2 rfl rfl rfl rfl) ?_
    refine WQ ?_
    refine WA ?_
    refine zb rfl ?_
    refine WA ?_
    have hre : rfE ⟨jxs X, sp, spk, lf, lfk, us, usk⟩ ⟨st, no, at_, 1, pr, jb, sn, n, of_, ot⟩ = 6 := by simp [rfE, runJ, hrun, hnj]
    exact ze [some 0, some 1, some 2, some 3, some 4, some 5, some 6, some 7, some 8] [.box [.mp 1, .mp 2, .mp 3, .mp 4, .o 5 0 (R1).length c1, .o 6 0 (R2).length c2], mSP (jlF 0 (jxs X) bl) (X).length, mSS sp spk, mSI lf lfk, mSI us usk, .arr 3 1 c1 (nR (R1)), .arr 32 1 c2 (nR (R2)), .pool (plF jbQ X bl), .pool (X.map jbA)] rfl rfl rfl (by decide) (ZNK rfl) ZCH ⟨X, bl, _, by rw [hre], by rw [hre, if_neg (by decide)], rfl, hbl, rfl⟩
  by_cases h2 : kn = 2
  ·subst h2
   refine WA ?_
   refine za rfl ?_
   refine ZZ ?_
   refine WA ?_
   refine zb rfl ?_
   refine ZZ ?_
   refine WA ?_
   refine zb rfl ?_
   refine WA ?_
   have hre : rfE ⟨jxs X, sp, spk, lf, lfk, us, usk⟩ ⟨st, no, at_, 2, pr, jb, sn, n, of_, ot⟩ = 8 := by simp [rfE, runJ, hrun]
   exact ze [some 0, some 1, some 2, some 3, some 4, some 5, some 6, some 7, some 8] [.box [.mp 1, .mp 2, .mp 3, .mp 4, .o 5 0 (R1).length c1, .o 6 0 (R2).length c2], mSP (jlF 0 (jxs X) bl) (X).length, mSS sp spk, mSI lf lfk, mSI us usk, .arr 3 1 c1 (nR (R1)), .arr 32 1 c2 (nR (R2)), .pool (plF jbQ X bl), .pool (X.map jbA)] rfl rfl rfl (by decide) (ZNK rfl) ZCH ⟨X, bl, _, by rw [hre], by rw [hre, if_neg (by decide)], rfl, hbl, rfl⟩
  by_cases h3 : kn = 3
  ·subst h3
   refine WA ?_
   refine za rfl ?_
   refine ZZ ?_
   refine WA ?_
   refine za rfl ?_
   refine ZZ ?_
   refine WA ?_
   refine zb rfl ?_
   refine ZZ ?_
   refine WA ?_
   refine zb rfl ?_
   refine WA ?_
   have hre : rfE ⟨jxs X, sp, spk, lf, lfk, us, usk⟩ ⟨st, no, at_, 3, pr, jb, sn, n, of_, ot⟩ = 8 := by simp [rfE, runJ, hrun]
   exact ze [some 0, some 1, some 2, some 3, some 4, some 5, some 6, some 7, some 8] [.box [.mp 1, .mp 2, .mp 3, .mp 4, .o 5 0 (R1).length c1, .o 6 0 (R2).length c2], mSP (jlF 0 (jxs X) bl) (X).length, mSS sp spk, mSI lf lfk, mSI us usk, .arr 3 1 c1 (nR (R1)), .arr 32 1 c2 (nR (R2)), .pool (plF jbQ X bl), .pool (X.map jbA)] rfl rfl rfl (by decide) (ZNK rfl) ZCH ⟨X, bl, _, by rw [hre], by rw [hre, if_neg (by decide)], rfl, hbl, rfl⟩
  by_cases h4 : kn = 4
  ·subst h4
   refine WA ?_
   refine za rfl ?_
   refine ZZ ?_
   refine WA ?_
   refine za rfl ?_
   refine ZZ ?_
   refine WA ?_
   refine za rfl ?_
   refine ZZ ?_
   refine WA ?_
   refine zb rfl ?_
   refine ZZ ?_
   refine WA ?_
   refine zb rfl ?_
   refine WA ?_
   have hre : rfE ⟨jxs X, sp, spk, lf, lfk, us, usk⟩ ⟨st, no, at_, 4, pr, jb, sn, n, of_, ot⟩ = 8 := by simp [rfE, runJ, hrun]
   exact ze [some 0, some 1, some 2, some 3, some 4, some 5, some 6, some 7, some 8] [.box [.mp 1, .mp 2, .mp 3, .mp 4, .o 5 0 (R1).length c1, .o 6 0 (R2).length c2], mSP (jlF 0 (jxs X) bl) (X).length, mSS sp spk, mSI lf lfk, mSI us usk, .arr 3 1 c1 (nR (R1)), .arr 32 1 c2 (nR (R2)), .pool (plF jbQ X bl), .pool (X.map jbA)] rfl rfl rfl (by decide) (ZNK rfl) ZCH ⟨X, bl, _, by rw [hre], by rw [hre, if_neg (by decide)], rfl, hbl, rfl⟩
  by_cases h5 : kn = 5
  ·subst h5
   refine WA ?_
   refine za rfl ?_
   refine ZZ ?_
   refine WA ?_
   refine za rfl ?_
   refine ZZ ?_
   refine WA ?_
   refine za rfl ?_
   refine ZZ ?_
   refine WA ?_
   refine za rfl ?_
   refine ZZ ?_
   refine WA ?_
   refine zb rfl ?_
   refine ZZ ?_
   have hok := hsp
   refine ZR ?_
   iterate 4 refine WX1 ?_
   refine zf rfl (zh2 (ke := encSt) (ve := encSt) (l := sp) (ck := spk) rfl rfl (by decide) Tryz.underlying99 rfl rfl) ?_
   rintro _ _ ⟨rfl, rfl⟩
   refine WE ?_
   refine zC (fun m F H => ∃ (seen : List Nat), unsG sp seen = m ∧ (∀ e ∈ sp, e.1 ∈ seen → e.2.2 ≠ sn) ∧ F = [(0, .p 0 0 0), (3, .p 9 0 0), (118, .p 10 0 0)] ∧ H = [.box [.mp 1, .mp 2, .mp 3, .mp 4, .o 5 0 (R1).length c1, .o 6 0 (R2).length c2], mSP (jlF 0 (jxs X) bl) (X).length, mSS sp spk, mSI lf lfk, mSI us usk, .arr 3 1 c1 (nR (R1)), .arr 32 1 c2 (nR (R2)), .pool (plF jbQ X bl), .pool (X.map jbA), .box [.c (T st), .c (I no), .c (I at_), .c (I 5), .c (T pr), .c (T jb), .c (T sn), .c (I n), .c (T of_), .c (I ot)], .itr 2 spk seen spk]) ?_ ?_
   ·refine zn [some 0, some 1, some 2, some 3, some 4, some 5, some 6, some 7, some 8, some 9, some 10] (fun _ => [(0, .p 0 0 0), (3, .p 9 0 0), (118, .p 10 0 0)]) (fun _ => [.box [.mp 1, .mp 2, .mp 3, .mp 4, .o 5 0 (R1).length c1, .o 6 0 (R2).length c2], mSP (jlF 0 (jxs X) bl) (X).length, mSS sp spk, mSI lf lfk, mSI us usk, .arr 3 1 c1 (nR (R1)), .arr 32 1 c2 (nR (R2)), .pool (plF jbQ X bl), .pool (X.map jbA), .box [.c (T st), .c (I no), .c (I at_), .c (I 5), .c (T pr), .c (T jb), .c (T sn), .c (I n), .c (T of_), .c (I ot)], .itr 2 spk [] spk]) (by decide) (ZNL hE) ZCF ZCH (fun _ => ?_)
    exact ⟨_, [], rfl, fun e _ h => (by cases h), rfl, rfl⟩
   rintro m F H ⟨seen, hm, hs, rfl, rfl⟩
   refine ZR ?_
   refine zf rfl (zL2 (ke := encSt) (ve := encSt) (l := sp) rfl rfl (by decide) rfl rfl rfl hok.hb (Nat.le_refl _)) ?_
   rintro _ _ (⟨⟨eb, ek, es⟩, he, hne, rfl, rfl⟩ | ⟨hall, rfl, rfl⟩)
   all_goals (refine WE ?_)
   ·refine zb rfl ?_
    have hlt := zH2 he hne
    obtain ⟨q, hq⟩ : ∃ q, decide (es = sn) = q := ⟨_, rfl⟩
    refine ZR ?_
    refine ZA (zg2 (ke := encSt) (ve := encSt) (e := (eb, ek, es)) rfl rfl rfl rfl he hok.nb) ?_
    refine WE ?_
    refine ZR ?_
    iterate 3 refine WX1 ?_
    refine ZA (zT (a := es) (b := sn) hq rfl Tryz.underlying9 rfl rfl) ?_
    refine WE ?_
    cases q with
    | true =>
     refine zb rfl ?_
     have hiu : inUse sp sn = true := List.any_eq_true.2 ⟨_, he, hq⟩
     refine WA ?_
     have hre : rfE ⟨jxs X, sp, spk, lf, lfk, us, usk⟩ ⟨st, no, at_, 5, pr, jb, sn, n, of_, ot⟩ = 6 := by simp [rfE, hiu]
     exact ze [some 0, some 1, some 2, some 3, some 4, some 5, some 6, some 7, some 8] [.box [.mp 1, .mp 2, .mp 3, .mp 4, .o 5 0 (R1).length c1, .o 6 0 (R2).length c2], mSP (jlF 0 (jxs X) bl) (X).length, mSS sp spk, mSI lf lfk, mSI us usk, .arr 3 1 c1 (nR (R1)), .arr 32 1 c2 (nR (R2)), .pool (plF jbQ X bl), .pool (X.map jbA)] rfl rfl rfl (by decide) (ZNK rfl) ZCH ⟨X, bl, _, by rw [hre], by rw [hre, if_neg (by decide)], rfl, hbl, rfl⟩
    | false =>
     refine za rfl ?_
     refine ZZ ?_
     refine zn [some 0, some 1, some 2, some 3, some 4, some 5, some 6, some 7, some 8, some 9, some 10] (fun _ => [(0, .p 0 0 0), (3, .p 9 0 0), (118, .p 10 0 0)]) (fun _ => [.box [.mp 1, .mp 2, .mp 3, .mp 4, .o 5 0 (R1).length c1, .o 6 0 (R2).length c2], mSP (jlF 0 (jxs X) bl) (X).length, mSS sp spk, mSI lf lfk, mSI us usk, .arr 3 1 c1 (nR (R1)), .arr 32 1 c2 (nR (R2)), .pool (plF jbQ X bl), .pool (X.map jbA), .box [.c (T st), .c (I no), .c (I at_), .c (I 5), .c (T pr), .c (T jb), .c (T sn), .c (I n), .c (T of_), .c (I ot)], .itr 2 spk (seen ++ [eb]) spk]) (by decide) (ZNL hE) ZCF ZCH (fun _ => ?_)
     refine ⟨_, by rw [← hm]; exact hlt, seen ++ [eb], rfl, fun e he2 h => ?_, rfl, rfl⟩
     rcases List.mem_append.1 h with h | h
     ·exact hs e he2 h
     ·rw [List.mem_singleton] at h
      have := born_eq hok.nb he2 he h
      subst this
      exact of_decide_eq_false hq
   ·refine za rfl ?_
    have hiu : inUse sp sn = false := by
     unfold inUse
     rw [List.any_eq_false]
     intro e he
     simpa using hs e he (hall e he)
    refine ZZ ?_
    refine zg [(0, none), (1, none), (2, none), (3, none), (4, none), (5, none), (6, none), (7, none), (8, none), (9, none), (10, none), (11, none), (12, none), (13, none), (14, none), (15, none), (16, some [10, 11, 12, 13, 14, 15]), (17, none), (18, some [10, 11, 14, 15]), (19, some [14, 15]), (20, none), (21, some [])] zm (by kernel_rfl) ?_
    iterate 16 refine WX2 ?_
    refine zh1 rfl rfl (zX1 (ke := encSt) (ve := encSt) (k := pr) (l := sp) (z := []) keySt rfl rfl (by decide) Tryz.underlying99 (by kernel_rfl) rfl rfl rfl (fun ρ H => encSt.den _ ρ H)) ?_
    rintro _ _ ⟨rfl, rfl⟩
    refine ⟨zi (by first | exact zr rfl rfl rfl (ZX (KF (t := 82) (f := 6) rfl rfl)) rfl) (zi (by first | exact zr rfl rfl rfl (ZL (KK (t := 9) rfl)) rfl) (zi (by first | exact zr rfl rfl rfl (ZX (KF (t := 82) (f := 6) rfl rfl)) rfl) (zi (by first | exact zr rfl rfl rfl (ZL (KK (t := 9) rfl)) rfl) (zi (by first | exact zr rfl rfl rfl (ZX (KF (t := 82) (f := 7) rfl rfl)) rfl) (zi (by first | exact zr rfl rfl rfl (ZL (KK (t := 3) rfl)) rfl) (zk)))))), ?_⟩
    refine WX2 ?_
    refine zh1 rfl rfl (zW1 (ke := encSt) (ve := encSt) (l := (mset spk pr ((mget sp pr).getD []) sp)) (z := sn) rfl rfl rfl rfl rfl zD1 rfl (fun ρ H => encSt.den _ ρ H)) ?_
    rintro _ _ ⟨rfl, rfl⟩
    refine ⟨zi (by first | exact zr rfl rfl rfl (ZX (KF (t := 82) (f := 6) rfl rfl)) rfl) (zi (by first | exact zr rfl rfl rfl (ZL (KK (t := 9) rfl)) rfl) (zi (by first | exact zr rfl rfl rfl (ZX (KF (t := 82) (f := 7) rfl rfl)) rfl) (zi (by first | exact zr rfl rfl rfl (ZL (KK (t := 3) rfl)) rfl) (zk)))), ?_⟩
    refine zh1 rfl rfl (zX1 (ke := encSt) (ve := encIn) (k := sn) (l := lf) (z := 0) keySt rfl rfl (by decide) Tryz.underlying90 (by kernel_rfl) rfl rfl rfl (fun ρ H => encSt.den _ ρ H)) ?_
    rintro _ _ ⟨rfl, rfl⟩
    refine ⟨zi (by first | exact zr rfl rfl rfl (ZX (KF (t := 82) (f := 7) rfl rfl)) rfl) (zi (by first | exact zr rfl rfl rfl (ZL (KK (t := 3) rfl)) rfl) (zk)), ?_⟩
    refine WX2 ?_
    refine zh1 rfl rfl (zW1 (ke := encSt) (ve := encIn) (l := (mset lfk sn ((mget lf sn).getD 0) lf)) (z := n) rfl rfl rfl rfl rfl zD1 rfl (fun ρ H => encIn.den _ ρ H)) ?_
    rintro _ _ ⟨rfl, rfl⟩
    refine ⟨zk, ?_⟩
    refine WQ ?_
    all_goals (
     rw [zE1 hsp.hb hsp.nb, zE1 hlm.hb hlm.nb]
     refine WA ?_
     have hre : rfE ⟨jxs X, sp, spk, lf, lfk, us, usk⟩ ⟨st, no, at_, 5, pr, jb, sn, n, of_, ot⟩ = 0 := by simp [rfE, hiu]
     exact ze [some 0, some 1, some 2, some 3, some 4, some 5, some 6, some 7, some 8] [.box [.mp 1, .mp 2, .mp 3, .mp 4, .o 5 0 (R1).length c1, .o 6 0 (R2).length c2], mSP (jlF 0 (jxs X) bl) (X).length, mSS (mset spk pr sn sp) (mclk spk pr sp), mSI (mset lfk sn n lf) (mclk lfk sn lf), mSI us usk, .arr 3 1 c1 (nR (R1)), .arr 32 1 c2 (nR (R2)), .pool (plF jbQ X bl), .pool (X.map jbA)] rfl rfl rfl (by decide) (ZNK rfl) ZCH ⟨X, bl, _, by rw [hre], by rw [hre, if_pos rfl], by simp [ntS], hbl, by simp [ntS]⟩)
  by_cases h6 : kn = 6
  ·subst h6
   refine WA ?_
   refine za rfl ?_
   refine ZZ ?_
   refine WA ?_
   refine za rfl ?_
   refine ZZ ?_
   refine WA ?_
   refine za rfl ?_
   refine ZZ ?_
   refine WA ?_
   refine za rfl ?_
   refine ZZ ?_
   refine WA ?_
   refine za rfl ?_
   refine ZZ ?_
   refine WA ?_
   refine zb rfl ?_
   refine ZZ ?_
   rcases hsg : mget sp pr with _ | kk
   ·have hs1 : (mget sp pr).getD [] = [] := by rw [hsg]; rfl
    have hs2 : (mget sp pr).isSome = false := by rw [hsg]; rfl
    refine ZZ ?_
    refine zg [(0, none), (1, none), (2, none), (3, none), (4, none), (5, none), (6, none), (7, none), (8, none), (9, none), (10, none), (11, none)] zm (by kernel_rfl) ?_
    iterate 6 refine WX2 ?_
    refine ZT rfl (zQ1 (k := pr) (l := sp) hs1 hs2 rfl rfl rfl rfl) ?_
    refine WQ ?_
    refine WA ?_
    refine zb rfl ?_
    refine WA ?_
    have hre : rfE ⟨jxs X, sp, spk, lf, lfk, us, usk⟩ ⟨st, no, at_, 6, pr, jb, sn, n, of_, ot⟩ = 8 := by simp [rfE, hsg]
    exact ze [some 0, some 1, some 2, some 3, some 4, some 5, some 6, some 7, some 8] [.box [.mp 1, .mp 2, .mp 3, .mp 4, .o 5 0 (R1).length c1, .o 6 0 (R2).length c2], mSP (jlF 0 (jxs X) bl) (X).length, mSS sp spk, mSI lf lfk, mSI us usk, .arr 3 1 c1 (nR (R1)), .arr 32 1 c2 (nR (R2)), .pool (plF jbQ X bl), .pool (X.map jbA)] rfl rfl rfl (by decide) (ZNK rfl) ZCH ⟨X, bl, _, by rw [hre], by rw [hre, if_neg (by decide)], rfl, hbl, rfl⟩
   ·have hs1 : (mget sp pr).getD [] = kk := by rw [hsg]; rfl
    have hs2 : (mget sp pr).isSome = true := by rw [hsg]; rfl
    obtain ⟨lv, hlf⟩ : ∃ q, (mget lf kk).getD 0 = q := ⟨_, rfl⟩
    obtain ⟨uv, hus⟩ : ∃ q, (mget us kk).getD 0 = q := ⟨_, rfl⟩
    have hlv := hS.l kk
    have huv := hS.u kk
    rw [hlf] at hlv
    rw [hus] at huv
    have hnb := hn0 rfl
    refine ZZ ?_
    refine zg [(0, none), (1, none), (2, none), (3, none), (4, none), (5, none), (6, none), (7, none), (8, none), (9, none), (10, none), (11, none)] zm (by kernel_rfl) ?_
    iterate 6 refine WX2 ?_
    refine ZT rfl (zQ1 (k := pr) (l := sp) hs1 hs2 rfl rfl rfl rfl) ?_
    refine WQ ?_
    refine WA ?_
    refine za rfl ?_
    refine ZZ ?_
    refine zg [(0, none), (1, none), (2, none), (3, none), (4, none), (5, none), (6, none), (7, none), (8, none), (9, none)] zm (by kernel_rfl) ?_
    iterate 5 refine WX2 ?_
    refine ZT rfl (zX (k := kk) (l := lf) hlf rfl rfl rfl rfl) ?_
    refine WQ ?_
    refine zu rfl (fun g1 => ?_) (fun g1 => ?_)
    ·refine WA ?_
     have hre : rfE ⟨jxs X, sp, spk, lf, lfk, us, usk⟩ ⟨st, no, at_, 6, pr, jb, sn, n, of_, ot⟩ = 12 := by simp [rfE, hsg, hlf, g1]
     exact ze [some 0, some 1, some 2, some 3, some 4, some 5, some 6, some 7, some 8] [.box [.mp 1, .mp 2, .mp 3, .mp 4, .o 5 0 (R1).length c1, .o 6 0 (R2).length c2], mSP (jlF 0 (jxs X) bl) (X).length, mSS sp spk, mSI lf lfk, mSI us usk, .arr 3 1 c1 (nR (R1)), .arr 32 1 c2 (nR (R2)), .pool (plF jbQ X bl), .pool (X.map jbA)] rfl rfl rfl (by decide) (ZNK rfl) ZCH ⟨X, bl, _, by rw [hre], by rw [hre, if_neg (by decide)], rfl, hbl, rfl⟩
    refine ZZ ?_
    have hlmm : (mget (mset lfk kk ((mget lf kk).getD 0) lf) kk).getD 0 = lv := by rw [ze1, if_pos rfl]; exact hlf
    refine ZZ ?_
    refine zg [(0, none), (1, none), (2, none), (3, none), (4, none), (5, none), (6, none), (7, none), (8, none), (9, none), (10, none), (11, none), (12, none), (13, none), (14, none), (15, none), (16, none), (17, none), (18, none), (19, none), (20, none), (21, none), (22, none), (23, none), (24, none), (25, none), (26, none), (27, none), (28, some [9, 10, 11, 12, 13, 14, 15, 16, 17, 18, 25, 26, 27]), (29, none), (30, some [9, 25, 26, 27]), (31, some [25, 26, 27]), (32, none), (33, some [])] zm (by kernel_rfl) ?_
    iterate 15 refine WX2 ?_
    refine ZT rfl (by first | exact zX (k := kk) (l := lf) hlf rfl rfl rfl rfl | exact zX (k := kk) (l := mset lfk kk ((mget lf kk).getD 0) lf) hlmm rfl rfl rfl rfl) ?_
    iterate 8 refine WX2 ?_
    refine ZT rfl (zX (k := kk) (l := us) hus rfl rfl rfl rfl) ?_
    iterate 3 refine WX2 ?_
    refine zh1 rfl rfl (zX1 (ke := encSt) (ve := encIn) (k := kk) (l := lf) (z := 0) keySt rfl rfl (by decide) Tryz.underlying90 (by kernel_rfl) rfl rfl rfl (fun ρ H => encSt.den _ ρ H)) ?_
    rintro _ _ ⟨rfl, rfl⟩
    refine ⟨zi (by first | exact zr rfl rfl rfl (zw2 rfl rfl) rfl) (zi (by first | exact zr rfl rfl rfl (zw2 rfl rfl) rfl) (zi (by first | exact zr rfl rfl rfl (rd_nil rfl rfl) rfl | exact zr rfl rfl rfl (rd_nilq rfl rfl) rfl) (zi (by first | exact zr rfl rfl rfl (ZX (KF (t := 119) (f := 2) rfl rfl)) rfl) (zi (by first | exact zr rfl rfl rfl (ZL (KK (t := 90) rfl)) rfl) (zi (by first | exact zr rfl rfl rfl (zw2 rfl rfl) rfl) (zi (by first | exact zr rfl rfl rfl (by first | exact zX (k := kk) (l := lf) hlf rfl rfl rfl rfl | exact zX (k := kk) (l := mset lfk kk ((mget lf kk).getD 0) lf) hlmm rfl rfl rfl rfl) rfl) (zi (by first | exact zr rfl rfl rfl (ZX (KF (t := 82) (f := 7) rfl rfl)) rfl) (zi (by first | exact zr rfl rfl rfl (ZL (KK (t := 3) rfl)) rfl) (zi (by first | exact zr rfl rfl rfl (Zsub) rfl) (zi (by first | exact zr rfl rfl rfl (ZX (KF (t := 82) (f := 7) rfl rfl)) rfl) (zi (by first | exact zr rfl rfl rfl (ZL (KK (t := 3) rfl)) rfl) (zi (by first | exact zr rfl rfl rfl (Zadd) rfl) (zk))))))))))))), ?_⟩
    refine WX2 ?_
    refine zh1 rfl rfl (zW1 (ke := encSt) (ve := encIn) (l := (mset lfk kk ((mget lf kk).getD 0) lf)) (z := lv - n) rfl rfl rfl rfl rfl zD1 rfl (fun ρ H => encIn.den _ ρ H)) ?_
    rintro _ _ ⟨rfl, rfl⟩
    refine ⟨zi (by first | exact zr rfl rfl rfl (zw2 rfl rfl) rfl) (zi (by first | exact zr rfl rfl rfl (ZX (KF (t := 82) (f := 7) rfl rfl)) rfl) (zi (by first | exact zr rfl rfl rfl (ZL (KK (t := 3) rfl)) rfl) (zi (by first | exact zr rfl rfl rfl (Zadd) rfl) (zk)))), ?_⟩
    refine zh1 rfl rfl (zX1 (ke := encSt) (ve := encIn) (k := kk) (l := us) (z := 0) keySt rfl rfl (by decide) Tryz.underlying90 (by kernel_rfl) rfl rfl rfl (fun ρ H => encSt.den _ ρ H)) ?_
    rintro _ _ ⟨rfl, rfl⟩
    refine ⟨zi (by first | exact zr rfl rfl rfl (ZX (KF (t := 82) (f := 7) rfl rfl)) rfl) (zi (by first | exact zr rfl rfl rfl (ZL (KK (t := 3) rfl)) rfl) (zi (by first | exact zr rfl rfl rfl (Zadd) rfl) (zk))), ?_⟩
    refine WX2 ?_
    refine zh1 rfl rfl (zW1 (ke := encSt) (ve := encIn) (l := (mset usk kk ((mget us kk).getD 0) us)) (z := uv + n) rfl rfl rfl rfl rfl zD1 rfl (fun ρ H => encIn.den _ ρ H)) ?_
    rintro _ _ ⟨rfl, rfl⟩
    refine ⟨zk, ?_⟩
    refine WQ ?_
    all_goals (
     rw [zE1 hlm.hb hlm.nb, zE1 hum.hb hum.nb]
     refine WA ?_
     have hre : rfE ⟨jxs X, sp, spk, lf, lfk, us, usk⟩ ⟨st, no, at_, 6, pr, jb, sn, n, of_, ot⟩ = 0 := by simp [rfE, hsg, hlf, g1]
     exact ze [some 0, some 1, some 2, some 3, some 4, some 5, some 6, some 7, some 8] [.box [.mp 1, .mp 2, .mp 3, .mp 4, .o 5 0 (R1).length c1, .o 6 0 (R2).length c2], mSP (jlF 0 (jxs X) bl) (X).length, mSS sp spk, mSI (mset lfk kk (lv - n) lf) (mclk lfk kk lf), mSI (mset usk kk (uv + n) us) (mclk usk kk us), .arr 3 1 c1 (nR (R1)), .arr 32 1 c2 (nR (R2)), .pool (plF jbQ X bl), .pool (X.map jbA)] rfl rfl rfl (by decide) (ZNK rfl) ZCH ⟨X, bl, _, by rw [hre], by rw [hre, if_pos rfl], by simp [ntS], hbl, by simp [ntS, hsg, hlf, hus]⟩)
  refine WA ?_
  refine za rfl ?_
  refine ZZ ?_
  refine WA ?_
  refine za rfl ?_
  refine ZZ ?_
  refine WA ?_
  refine za rfl ?_
  refine ZZ ?_
  refine WA ?_
  refine za rfl ?_
  refine ZZ ?_
  refine WA ?_
  refine za rfl ?_
  refine ZZ ?_
  refine WA ?_
  refine za rfl ?_
  refine ZZ ?_
  refine WA ?_
  have hre : rfE ⟨jxs X, sp, spk, lf, lfk, us, usk⟩ ⟨st, no, at_, kn, pr, jb, sn, n, of_, ot⟩ = 0 := by simp [rfE, h1, h2, h3, h4, h5, h6]
  exact ze [some 0, some 1, some 2, some 3, some 4, some 5, some 6, some 7, some 8] [.box [.mp 1, .mp 2, .mp 3, .mp 4, .o 5 0 (R1).length c1, .o 6 0 (R2).length c2], mSP (jlF 0 (jxs X) bl) (X).length, mSS sp spk, mSI lf lfk, mSI us usk, .arr 3 1 c1 (nR (R1)), .arr 32 1 c2 (nR (R2)), .pool (plF jbQ X bl), .pool (X.map jbA)] rfl rfl rfl (by decide) (ZNK rfl) ZCH ⟨X, bl, _, by rw [hre], by rw [hre, if_pos rfl], by simp [ntS, h1, h2, h3, h4, h5, h6], hbl, by simp [ntS, h1, h2, h3, h4, h5, h6]⟩
 ·obtain ⟨j, hkj, hjp, hjs⟩ := zR1 hrun
  obtain ⟨⟨j, A, c⟩, hx, rfl⟩ : ∃ x, X[k]? = some x ∧ x.1 = j := by
   rw [List.getElem?_map] at hkj
   exact Option.map_eq_some_iff.1 hkj
  simp only at hjp hjs hkj
  obtain ⟨b0, hb0⟩ : ∃ b, bl[k]? = some b := ⟨_, List.getElem?_eq_getElem (by rw [hbj]; exact (List.getElem?_eq_some_iff.1 hkj).1)⟩
  have hrp : runP (jxs X) bl pr = ptrV b0 := by unfold runP; rw [hrun]; simp only; rw [hb0]
  have hin : InPool k b0 (plF jbQ X bl) [T j.pr, T (stW j.st), .s (.slice A j.ly.length c), I j.all, I j.beg, I (if j.st = 1 then j.en else 0)] := ⟨zx2 hx hb0⟩
  have hpa : (X.map jbA)[k]? = some (.ar (.slice A j.ly.length c) j.ly.length c 3 1 c (nR j.ly)) := by rw [List.getElem?_map, hx]; rfl
  have hall := hJ.all j (List.mem_of_getElem? hkj)
  refine WR ?_
  refine zf rfl (zW [0, 1, 2, 3, 4, 5, 6, 7, 8] (fun _ => [.box [.mp 1, .mp 2, .mp 3, .mp 4, .o 5 0 (R1).length c1, .o 6 0 (R2).length c2], mSP (jlF 0 (jxs X) bl) (X).length, mSS sp spk, mSI lf lfk, mSI us usk, .arr 3 1 c1 (nR (R1)), .arr 32 1 c2 (nR (R2)), .pool (plF jbQ X bl), .pool (X.map jbA)]) false (fun _ => running_v X bl sp spk lf lfk us usk c1 c2 R1 R2 pr hJ hbl) rfl .fn rfl (by decide) (by kernel_rfl) rfl ZCH (by decide) ZCH (by simp)) ?_
  rintro F1 H1 ⟨_, _, _, _, ⟨rfl, rfl⟩, hF, hH⟩
  rw [zF] at hF; rw [hrp] at hF; (refine NSU hF hH ?_; clear hF hH; rintro rfl rfl)
  refine WE ?_
  refine WA ?_
  by_cases h1 : kn = 1
  ·subst h1
   refine WA ?_
   refine zb rfl ?_
   refine ZZ ?_
   rcases hnj : nmI (jxs X) jb with _ | q
   ·have hjb1 : (mget (jlF 0 (jxs X) bl) jb).getD (.pointer none) = .pointer none := by rw [zZ1 hbj hnj]; rfl
    have hjb2 : (mget (jlF 0 (jxs X) bl) jb).isSome = false := by rw [zZ1 hbj hnj]; rfl
    refine ZZ ?_
    refine zg [(0, none), (1, none), (2, none), (3, none), (4, none), (5, none), (6, none), (7, none), (8, none), (9, none), (10, none), (11, none)] zm (by kernel_rfl) ?_
    iterate 6 refine WX2 ?_
    refine ZT rfl (rd_lkJ2 (k := jb) (l := (jlF 0 (jxs X) bl)) hjb1 hjb2 rfl rfl rfl rfl) ?_
    refine WQ ?_
    refine WA ?_
    refine za rfl ?_
    refine ZZ ?_
    refine WA ?_
    refine zb rfl ?_
    refine WA ?_
    have hre : rfE ⟨jxs X, sp, spk, lf, lfk, us, usk⟩ ⟨st, no, at_, 1, pr, jb, sn, n, of_, ot⟩ = 12 := by simp [rfE, runJ, hrun, hx, hnj]
    exact ze [some 0, some 1, some 2, some 3, some 4, some 5, some 6, some 7, some 8] [.box [.mp 1, .mp 2, .mp 3, .mp 4, .o 5 0 (R1).length c1, .o 6 0 (R2).length c2], mSP (jlF 0 (jxs X) bl) (X).length, mSS sp spk, mSI lf lfk, mSI us usk, .arr 3 1 c1 (nR (R1)), .arr 32 1 c2 (nR (R2)), .pool (plF jbQ X bl), .pool (X.map jbA)] rfl rfl rfl (by decide) (ZNK rfl) ZCH ⟨X, bl, _, by rw [hre], by rw [hre, if_neg (by decide)], rfl, hbl, rfl⟩
   ·obtain ⟨bq, hbq1, hbq2⟩ := zc3 hbj hnj
    have hjb1 : (mget (jlF 0 (jxs X) bl) jb).getD (.pointer none) = ptrV bq := by rw [hbq2]; rfl
    have hjb2 : (mget (jlF 0 (jxs X) bl) jb).isSome = true := by rw [hbq2]; rfl
    refine ZZ ?_
    refine zg [(0, none), (1, none), (2, none), (3, none), (4, none), (5, none), (6, none), (7, none), (8, none), (9, none), (10, none), (11, none)] zm (by kernel_rfl) ?_
    iterate 6 refine WX2 ?_
    refine ZT rfl (rd_lkJ2 (k := jb) (l := (jlF 0 (jxs X) bl)) hjb1 hjb2 rfl rfl rfl rfl) ?_
    refine WQ ?_
    refine WA ?_
    refine zb rfl ?_
    refine WA ?_
    have hre : rfE ⟨jxs X, sp, spk, lf, lfk, us, usk⟩ ⟨st, no, at_, 1, pr, jb, sn, n, of_, ot⟩ = 6 := by simp [rfE, runJ, hrun, hx, hnj]
    exact ze [some 0, some 1, some 2, some 3, some 4, some 5, some 6, some 7, some 8] [.box [.mp 1, .mp 2, .mp 3, .mp 4, .o 5 0 (R1).length c1, .o 6 0 (R2).length c2], mSP (jlF 0 (jxs X) bl) (X).length, mSS sp spk, mSI lf lfk, mSI us usk, .arr 3 1 c1 (nR (R1)), .arr 32 1 c2 (nR (R2)), .pool (plF jbQ X bl), .pool (X.map jbA)] rfl rfl rfl (by decide) (ZNK rfl) ZCH ⟨X, bl, _, by rw [hre], by rw [hre, if_neg (by decide)], rfl, hbl, rfl⟩
  by_cases h2 : kn = 2
  ·subst h2
   refine WA ?_
   refine za rfl ?_
   refine ZZ ?_
   refine WA ?_
   refine zb rfl ?_
   refine ZZ ?_
   refine WA ?_
   refine za rfl ?_
   refine ZZ ?_
   refine zg [(0, none), (1, none), (2, none), (3, none), (4, none), (5, none), (6, none), (7, none), (8, none), (9, none)] zm (by kernel_rfl) ?_
   refine WQ ?_
   refine zu rfl (fun g1 => ?_) (fun g1 => ?_)
   ·refine WA ?_
    have hre : rfE ⟨jxs X, sp, spk, lf, lfk, us, usk⟩ ⟨st, no, at_, 2, pr, jb, sn, n, of_, ot⟩ = 7 := by simp [rfE, runJ, hrun, hx, g1]
    exact ze [some 0, some 1, some 2, some 3, some 4, some 5, some 6, some 7, some 8] [.box [.mp 1, .mp 2, .mp 3, .mp 4, .o 5 0 (R1).length c1, .o 6 0 (R2).length c2], mSP (jlF 0 (jxs X) bl) (X).length, mSS sp spk, mSI lf lfk, mSI us usk, .arr 3 1 c1 (nR (R1)), .arr 32 1 c2 (nR (R2)), .pool (plF jbQ X bl), .pool (X.map jbA)] rfl rfl rfl (by decide) (ZNK rfl) ZCH ⟨X, bl, _, by rw [hre], by rw [hre, if_neg (by decide)], rfl, hbl, rfl⟩
   refine ZZ ?_
   have g3 : n = (j.ly.length : Int) + 1 := Decidable.not_not.1 g1
   refine ZZ ?_
   refine zg [(0, none), (1, none), (2, none), (3, none), (4, none), (5, none), (6, none), (7, none)] zm (by kernel_rfl) ?_
   refine WQ ?_
   refine zu rfl (fun g2 => ?_) (fun g2 => ?_)
   ·refine WA ?_
    have hre : rfE ⟨jxs X, sp, spk, lf, lfk, us, usk⟩ ⟨st, no, at_, 2, pr, jb, sn, n, of_, ot⟩ = 2 := by simp [rfE, runJ, hrun, hx, g3]; omega
    exact ze [some 0, some 1, some 2, some 3, some 4, some 5, some 6, some 7, some 8] [.box [.mp 1, .mp 2, .mp 3, .mp 4, .o 5 0 (R1).length c1, .o 6 0 (R2).length c2], mSP (jlF 0 (jxs X) bl) (X).length, mSS sp spk, mSI lf lfk, mSI us usk, .arr 3 1 c1 (nR (R1)), .arr 32 1 c2 (nR (R2)), .pool (plF jbQ X bl), .pool (X.map jbA)] rfl rfl rfl (by decide) (ZNK rfl) ZCH ⟨X, bl, _, by rw [hre], by rw [hre, if_neg (by decide)], rfl, hbl, rfl⟩
   refine ZZ ?_
   have e1 : (nR j.ly).length = j.ly.length := by simp
   refine ZZ ?_
   refine zg [(0, none), (1, none), (2, none), (3, none), (4, none), (5, none), (6, none), (7, some [0, 1, 2, 3, 4]), (8, some [0]), (9, none), (10, none), (11, some [])] zm (by kernel_rfl) ?_
   refine WP ?_
   first | refine al_take (i := 74) (p := 8) (k := k) rfl rfl hpa rfl (by simp) ?_ | refine at_take (i := 74) (p := 8) (k := k) rfl rfl hpa rfl (by simp) ?_ | refine am_take (i := 74) (p := 8) (k := k) rfl rfl hpa rfl (by simp) ?_
   refine zh1 rfl rfl (Zapp (news := [[I at_]]) (j := 1) (hE := KA (t := 22) rfl) (hsrc := .own rfl rfl rfl) (hj := rfl) (hle := by omega)) ?_
   rintro F1 H1 ⟨_, cc, hcc, hF, hH⟩
   (refine NSU hF hH ?_; clear hF hH; rintro rfl rfl)
   refine ⟨zi (by first | exact zr rfl rfl rfl (zw2 rfl rfl) rfl) (zk), ?_⟩
   iterate 2 refine WX2 ?_
   first | refine al_ghost (i := 78) rfl fun A3 => ?_ | refine at_ghost (i := 78) rfl fun A3 => ?_ | refine am_ghost (i := 78) rfl fun A3 => ?_
   refine zh1 rfl rfl (Ystp) ?_
   rintro _ _ ⟨rfl, rfl⟩
   refine ⟨zk, ?_⟩
   refine WQ ?_
   have hlay : layJ (jxs X) pr at_ = (jxs X).modify k fun j => { j with ly := j.ly ++ [at_] } := by unfold layJ; rw [hrun]
   all_goals (
    have e2 : nR j.ly ++ [[I at_]] = nR (j.ly ++ [at_]) := by simp
    refine zB3 (wk_putk (K := fun F' H' => ∃ g, F' = killF g [11] _ ∧ H' = ((List.map (killO g [11]) _).set 11 .dead).set 8 _) (b := 11) (q := 13) (p := 8) (k := k) (.ar (.slice A3 (j.ly.length + 1) cc) (j.ly.length + 1) cc 3 1 cc (nR j.ly ++ [[I at_]])) rfl rfl (by simp) rfl ⟨_, hE, rfl⟩ (fun g hg => ⟨g, rfl, rfl⟩)) ?_
    rintro _ _ ⟨gg, rfl, rfl⟩
    have hxs : jxs (X.modify k (fun x : Jx => (({ x.1 with ly := x.1.ly ++ [at_] } : Jb), A3, cc))) = layJ (jxs X) pr at_ := by rw [hlay]; exact zY3 (f := (fun x : Jx => (({ x.1 with ly := x.1.ly ++ [at_] } : Jb), A3, cc))) (g := fun j => { j with ly := j.ly ++ [at_] }) (fun _ => rfl)
    have hp7 : (plF jbQ X bl).set k (.bx (.pointer (some ⟨b0, 0, none⟩)) [T j.pr, T (stW j.st), .s (.slice A3 (j.ly.length + 1) cc), I j.all, I j.beg, I (if j.st = 1 then j.en else 0)]) = plF jbQ (X.modify k (fun x : Jx => (({ x.1 with ly := x.1.ly ++ [at_] } : Jb), A3, cc))) bl := by rw [← plF_set (f := (fun x : Jx => (({ x.1 with ly := x.1.ly ++ [at_] } : Jb), A3, cc))) hx hb0]; simp [jbQ]
    have hp8 : ((X.map jbA).set k .out).set k (.ar (.slice A3 (j.ly.length + 1) cc) (j.ly.length + 1) cc 3 1 cc (nR j.ly ++ [[I at_]])) = (X.modify k (fun x : Jx => (({ x.1 with ly := x.1.ly ++ [at_] } : Jb), A3, cc))).map jbA := by rw [← mapA_set (f := (fun x : Jx => (({ x.1 with ly := x.1.ly ++ [at_] } : Jb), A3, cc))) hx]; simp [jbA]
    have hjl : jlF 0 (jxs X) bl = jlF 0 (jxs (X.modify k (fun x : Jx => (({ x.1 with ly := x.1.ly ++ [at_] } : Jb), A3, cc)))) bl := by rw [hxs, hlay]; exact (zL1 (f := fun j => { j with ly := j.ly ++ [at_] }) (fun _ => rfl)).symm
    have hlen : X.length = ((X.modify k (fun x : Jx => (({ x.1 with ly := x.1.ly ++ [at_] } : Jb), A3, cc)))).length := by simp
    refine WA ?_
    have hre : rfE ⟨jxs X, sp, spk, lf, lfk, us, usk⟩ ⟨st, no, at_, 2, pr, jb, sn, n, of_, ot⟩ = 0 := by simp [rfE, runJ, hrun, hx, g3]; omega
    exact ze [some 0, some 1, some 2, some 3, some 4, some 5, some 6, some 7, some 8] [.box [.mp 1, .mp 2, .mp 3, .mp 4, .o 5 0 (R1).length c1, .o 6 0 (R2).length c2], mSP (jlF 0 (jxs (X.modify k (fun x : Jx => (({ x.1 with ly := x.1.ly ++ [at_] } : Jb), A3, cc)))) bl) ((X.modify k (fun x : Jx => (({ x.1 with ly := x.1.ly ++ [at_] } : Jb), A3, cc)))).length, mSS sp spk, mSI lf lfk, mSI us usk, .arr 3 1 c1 (nR (R1)), .arr 32 1 c2 (nR (R2)), .pool (plF jbQ (X.modify k (fun x : Jx => (({ x.1 with ly := x.1.ly ++ [at_] } : Jb), A3, cc))) bl), .pool ((X.modify k (fun x : Jx => (({ x.1 with ly := x.1.ly ++ [at_] } : Jb), A3, cc))).map jbA)] rfl rfl rfl (by decide) (ZNK rfl) (by rw [← hjl, ← hlen, ← hp7, ← hp8]; exact ZCH) ⟨(X.modify k (fun x : Jx => (({ x.1 with ly := x.1.ly ++ [at_] } : Jb), A3, cc))), bl, _, by rw [hre], by rw [hre, if_pos rfl], by simp [ntS, hxs], by rw [hbl]; simp, by simp [ntS]⟩)
  by_cases h3 : kn = 3
  ·subst h3
   refine WA ?_
   refine za rfl ?_
   refine ZZ ?_
   refine WA ?_
   refine za rfl ?_
   refine ZZ ?_
   refine WA ?_
   refine zb rfl ?_
   refine ZZ ?_
   refine WA ?_
   refine za rfl ?_
   refine ZZ ?_
   refine zg [(0, none), (1, none), (2, none), (3, none), (4, none), (5, none), (6, none), (7, none), (8, none), (9, none), (10, none)] zm (by kernel_rfl) ?_
   refine WQ ?_
   refine zu rfl (fun g1 => ?_) (fun g1 => ?_)
   ·refine WA ?_
    have hre : rfE ⟨jxs X, sp, spk, lf, lfk, us, usk⟩ ⟨st, no, at_, 3, pr, jb, sn, n, of_, ot⟩ = 11 := by simp [rfE, runJ, hrun, hx, g1]
    exact ze [some 0, some 1, some 2, some 3, some 4, some 5, some 6, some 7, some 8] [.box [.mp 1, .mp 2, .mp 3, .mp 4, .o 5 0 (R1).length c1, .o 6 0 (R2).length c2], mSP (jlF 0 (jxs X) bl) (X).length, mSS sp spk, mSI lf lfk, mSI us usk, .arr 3 1 c1 (nR (R1)), .arr 32 1 c2 (nR (R2)), .pool (plF jbQ X bl), .pool (X.map jbA)] rfl rfl rfl (by decide) (ZNK rfl) ZCH ⟨X, bl, _, by rw [hre], by rw [hre, if_neg (by decide)], rfl, hbl, rfl⟩
   refine ZZ ?_
   refine zg [(0, none), (1, none), (2, none), (3, none), (4, none), (5, none), (6, some [1, 2, 3]), (7, none), (8, none), (9, some [])] zm (by kernel_rfl) ?_
   refine WQ ?_
   all_goals (
    have hlay : stopJ (jxs X) pr 1 at_ = (jxs X).modify k fun j => { j with st := 1, en := at_ } := by unfold stopJ; rw [hrun]
    have hxs : jxs (X.modify k (fun x : Jx => (({ x.1 with st := 1, en := at_ } : Jb), x.2.1, x.2.2))) = stopJ (jxs X) pr 1 at_ := by rw [hlay]; exact zY3 (f := (fun x : Jx => (({ x.1 with st := 1, en := at_ } : Jb), x.2.1, x.2.2))) (g := fun j => { j with st := 1, en := at_ }) (fun _ => rfl)
    have hp7 : (plF jbQ X bl).set k (.bx (.pointer (some ⟨b0, 0, none⟩)) [T j.pr, T [100, 111, 110, 101], .s (.slice A j.ly.length c), I j.all, I j.beg, I at_]) = plF jbQ (X.modify k (fun x : Jx => (({ x.1 with st := 1, en := at_ } : Jb), x.2.1, x.2.2))) bl := by rw [← plF_set (f := (fun x : Jx => (({ x.1 with st := 1, en := at_ } : Jb), x.2.1, x.2.2))) hx hb0]; simp [jbQ, stW, hjs]
    have hp8 : X.map jbA = (X.modify k (fun x : Jx => (({ x.1 with st := 1, en := at_ } : Jb), x.2.1, x.2.2))).map jbA := mapA_same (f := (fun x : Jx => (({ x.1 with st := 1, en := at_ } : Jb), x.2.1, x.2.2))) (fun _ => rfl)
    have hjl : jlF 0 (jxs X) bl = jlF 0 (jxs (X.modify k (fun x : Jx => (({ x.1 with st := 1, en := at_ } : Jb), x.2.1, x.2.2)))) bl := by rw [hxs, hlay]; exact (zL1 (f := fun j => { j with st := 1, en := at_ }) (fun _ => rfl)).symm
    have hlen : X.length = ((X.modify k (fun x : Jx => (({ x.1 with st := 1, en := at_ } : Jb), x.2.1, x.2.2)))).length := by simp
    refine WA ?_
    have hre : rfE ⟨jxs X, sp, spk, lf, lfk, us, usk⟩ ⟨st, no, at_, 3, pr, jb, sn, n, of_, ot⟩ = 0 := by simp [rfE, runJ, hrun, hx]; omega
    exact ze [some 0, some 1, some 2, some 3, some 4, some 5, some 6, some 7, some 8] [.box [.mp 1, .mp 2, .mp 3, .mp 4, .o 5 0 (R1).length c1, .o 6 0 (R2).length c2], mSP (jlF 0 (jxs (X.modify k (fun x : Jx => (({ x.1 with st := 1, en := at_ } : Jb), x.2.1, x.2.2)))) bl) ((X.modify k (fun x : Jx => (({ x.1 with st := 1, en := at_ } : Jb), x.2.1, x.2.2)))).length, mSS sp spk, mSI lf lfk, mSI us usk, .arr 3 1 c1 (nR (R1)), .arr 32 1 c2 (nR (R2)), .pool (plF jbQ (X.modify k (fun x : Jx => (({ x.1 with st := 1, en := at_ } : Jb), x.2.1, x.2.2))) bl), .pool ((X.modify k (fun x : Jx => (({ x.1 with st := 1, en := at_ } : Jb), x.2.1, x.2.2))).map jbA)] rfl rfl rfl (by decide) (ZNK rfl) (by rw [← hjl, ← hlen, ← hp7, ← hp8]; (try simp only [List.set_set]); exact ZCH) ⟨(X.modify k (fun x : Jx => (({ x.1 with st := 1, en := at_ } : Jb), x.2.1, x.2.2))), bl, _, by rw [hre], by rw [hre, if_pos rfl], by simp [ntS, hxs], by rw [hbl]; simp, by simp [ntS]⟩)
  by_cases h4 : kn = 4
  ·subst h4
   refine WA ?_
   refine za rfl ?_
   refine ZZ ?_
   refine WA ?_
   refine za rfl ?_
   refine ZZ ?_
   refine WA ?_
   refine za rfl ?_
   refine ZZ ?_
   refine WA ?_
   refine zb rfl ?_
   refine ZZ ?_
   refine WA ?_
   refine za rfl ?_
   refine ZZ ?_
   refine WA ?_
   all_goals (
    have hlay : stopJ (jxs X) pr 2 at_ = (jxs X).modify k fun j => { j with st := 2, en := at_ } := by unfold stopJ; rw [hrun]
    have hxs : jxs (X.modify k (fun x : Jx => (({ x.1 with st := 2, en := at_ } : Jb), x.2.1, x.2.2))) = stopJ (jxs X) pr 2 at_ := by rw [hlay]; exact zY3 (f := (fun x : Jx => (({ x.1 with st := 2, en := at_ } : Jb), x.2.1, x.2.2))) (g := fun j => { j with st := 2, en := at_ }) (fun _ => rfl)
    have hp7 : (plF jbQ X bl).set k (.bx (.pointer (some ⟨b0, 0, none⟩)) [T j.pr, T [102, 97, 105, 108, 101, 100], .s (.slice A j.ly.length c), I j.all, I j.beg, I (if j.st = 1 then j.en else 0)]) = plF jbQ (X.modify k (fun x : Jx => (({ x.1 with st := 2, en := at_ } : Jb), x.2.1, x.2.2))) bl := by rw [← plF_set (f := (fun x : Jx => (({ x.1 with st := 2, en := at_ } : Jb), x.2.1, x.2.2))) hx hb0]; simp [jbQ, stW, hjs]
    have hp8 : X.map jbA = (X.modify k (fun x : Jx => (({ x.1 with st := 2, en := at_ } : Jb), x.2.1, x.2.2))).map jbA := mapA_same (f := (fun x : Jx => (({ x.1 with st := 2, en := at_ } : Jb), x.2.1, x.2.2))) (fun _ => rfl)
    have hjl : jlF 0 (jxs X) bl = jlF 0 (jxs (X.modify k (fun x : Jx => (({ x.1 with st := 2, en := at_ } : Jb), x.2.1, x.2.2)))) bl := by rw [hxs, hlay]; exact (zL1 (f := fun j => { j with st := 2, en := at_ }) (fun _ => rfl)).symm
    have hlen : X.length = ((X.modify k (fun x : Jx => (({ x.1 with st := 2, en := at_ } : Jb), x.2.1, x.2.2)))).length := by simp
    refine WA ?_
    have hre : rfE ⟨jxs X, sp, spk, lf, lfk, us, usk⟩ ⟨st, no, at_, 4, pr, jb, sn, n, of_, ot⟩ = 0 := by simp [rfE, runJ, hrun, hx]
    exact ze [some 0, some 1, some 2, some 3, some 4, some 5, some 6, some 7, some 8] [.box [.mp 1, .mp 2, .mp 3, .mp 4, .o 5 0 (R1).length c1, .o 6 0 (R2).length c2], mSP (jlF 0 (jxs (X.modify k (fun x : Jx => (({ x.1 with st := 2, en := at_ } : Jb), x.2.1, x.2.2)))) bl) ((X.modify k (fun x : Jx => (({ x.1 with st := 2, en := at_ } : Jb), x.2.1, x.2.2)))).length, mSS sp spk, mSI lf lfk, mSI us usk, .arr 3 1 c1 (nR (R1)), .arr 32 1 c2 (nR (R2)), .pool (plF jbQ (X.modify k (fun x : Jx => (({ x.1 with st := 2, en := at_ } : Jb), x.2.1, x.2.2))) bl), .pool ((X.modify k (fun x : Jx => (({ x.1 with st := 2, en := at_ } : Jb), x.2.1, x.2.2))).map jbA)] rfl rfl rfl (by decide) (ZNK rfl) (by rw [← hjl, ← hlen, ← hp7, ← hp8]; (try simp only [List.set_set]); exact ZCH) ⟨(X.modify k (fun x : Jx => (({ x.1 with st := 2, en := at_ } : Jb), x.2.1, x.2.2))), bl, _, by rw [hre], by rw [hre, if_pos rfl], by simp [ntS, hxs], by rw [hbl]; simp, by simp [ntS]⟩)
  by_cases h5 : kn = 5
  ·subst h5
   refine WA ?_
   refine za rfl ?_
   refine ZZ ?_
   refine WA ?_
   refine za rfl ?_
   refine ZZ ?_
   refine WA ?_
   refine za rfl ?_
   refine ZZ ?_
   refine WA ?_
   refine za rfl ?_
   refine ZZ ?_
   refine WA ?_
   refine zb rfl ?_
   refine ZZ ?_
   have hok := hsp
   refine ZR ?_
   iterate 4 refine WX1 ?_
   refine zf rfl (zh2 (ke := encSt) (ve := encSt) (l := sp) (ck := spk) rfl rfl (by decide) Tryz.underlying99 rfl rfl) ?_
   rintro _ _ ⟨rfl, rfl⟩
   refine WE ?_
   refine zC (fun m F H => ∃ (seen : List Nat), unsG sp seen = m ∧ (∀ e ∈ sp, e.1 ∈ seen → e.2.2 ≠ sn) ∧ F = [(0, .p 0 0 0), (3, .p 9 0 0), (118, .p 10 0 0)] ∧ H = [.box [.mp 1, .mp 2, .mp 3, .mp 4, .o 5 0 (R1).length c1, .o 6 0 (R2).length c2], mSP (jlF 0 (jxs X) bl) (X).length, mSS sp spk, mSI lf lfk, mSI us usk, .arr 3 1 c1 (nR (R1)), .arr 32 1 c2 (nR (R2)), .pool (plF jbQ X bl), .pool (X.map jbA), .box [.c (T st), .c (I no), .c (I at_), .c (I 5), .c (T pr), .c (T jb), .c (T sn), .c (I n), .c (T of_), .c (I ot)], .itr 2 spk seen spk]) ?_ ?_
   ·refine zn [some 0, some 1, some 2, some 3, some 4, some 5, some 6, some 7, some 8, some 9, some 10] (fun _ => [(0, .p 0 0 0), (3, .p 9 0 0), (118, .p 10 0 0)]) (fun _ => [.box [.mp 1, .mp 2, .mp 3, .mp 4, .o 5 0 (R1).length c1, .o 6 0 (R2).length c2], mSP (jlF 0 (jxs X) bl) (X).length, mSS sp spk, mSI lf lfk, mSI us usk, .arr 3 1 c1 (nR (R1)), .arr 32 1 c2 (nR (R2)), .pool (plF jbQ X bl), .pool (X.map jbA), .box [.c (T st), .c (I no), .c (I at_), .c (I 5), .c (T pr), .c (T jb), .c (T sn), .c (I n), .c (T of_), .c (I ot)], .itr 2 spk [] spk]) (by decide) (ZNL hE) ZCF ZCH (fun _ => ?_)
    exact ⟨_, [], rfl, fun e _ h => (by cases h), rfl, rfl⟩
   rintro m F H ⟨seen, hm, hs, rfl, rfl⟩
   refine ZR ?_
   refine zf rfl (zL2 (ke := encSt) (ve := encSt) (l := sp) rfl rfl (by decide) rfl rfl rfl hok.hb (Nat.le_refl _)) ?_
   rintro _ _ (⟨⟨eb, ek, es⟩, he, hne, rfl, rfl⟩ | ⟨hall, rfl, rfl⟩)
   all_goals (refine WE ?_)
   ·refine zb rfl ?_
    have hlt := zH2 he hne
    obtain ⟨q, hq⟩ : ∃ q, decide (es = sn) = q := ⟨_, rfl⟩
    refine ZR ?_
    refine ZA (zg2 (ke := encSt) (ve := encSt) (e := (eb, ek, es)) rfl rfl rfl rfl he hok.nb) ?_
    refine WE ?_
    refine ZR ?_
    iterate 3 refine WX1 ?_
    refine ZA (zT (a := es) (b := sn) hq rfl Tryz.underlying9 rfl rfl) ?_
    refine WE ?_
    cases q with
    | true =>
     refine zb rfl ?_
     have hiu : inUse sp sn = true := List.any_eq_true.2 ⟨_, he, hq⟩
     refine WA ?_
     have hre : rfE ⟨jxs X, sp, spk, lf, lfk, us, usk⟩ ⟨st, no, at_, 5, pr, jb, sn, n, of_, ot⟩ = 6 := by simp [rfE, hiu]
     exact ze [some 0, some 1, some 2, some 3, some 4, some 5, some 6, some 7, some 8] [.box [.mp 1, .mp 2, .mp 3, .mp 4, .o 5 0 (R1).length c1, .o 6 0 (R2).length c2], mSP (jlF 0 (jxs X) bl) (X).length, mSS sp spk, mSI lf lfk, mSI us usk, .arr 3 1 c1 (nR (R1)), .arr 32 1 c2 (nR (R2)), .pool (plF jbQ X bl), .pool (X.map jbA)] rfl rfl rfl (by decide) (ZNK rfl) ZCH ⟨X, bl, _, by rw [hre], by rw [hre, if_neg (by decide)], rfl, hbl, rfl⟩
    | false =>
     refine za rfl ?_
     refine ZZ ?_
     refine zn [some 0, some 1, some 2, some 3, some 4, some 5, some 6, some 7, some 8, some 9, some 10] (fun _ => [(0, .p 0 0 0), (3, .p 9 0 0), (118, .p 10 0 0)]) (fun _ => [.box [.mp 1, .mp 2, .mp 3, .mp 4, .o 5 0 (R1).length c1, .o 6 0 (R2).length c2], mSP (jlF 0 (jxs X) bl) (X).length, mSS sp spk, mSI lf lfk, mSI us usk, .arr 3 1 c1 (nR (R1)), .arr 32 1 c2 (nR (R2)), .pool (plF jbQ X bl), .pool (X.map jbA), .box [.c (T st), .c (I no), .c (I at_), .c (I 5), .c (T pr), .c (T jb), .c (T sn), .c (I n), .c (T of_), .c (I ot)], .itr 2 spk (seen ++ [eb]) spk]) (by decide) (ZNL hE) ZCF ZCH (fun _ => ?_)
     refine ⟨_, by rw [← hm]; exact hlt, seen ++ [eb], rfl, fun e he2 h => ?_, rfl, rfl⟩
     rcases List.mem_append.1 h with h | h
     ·exact hs e he2 h
     ·rw [List.mem_singleton] at h
      have := born_eq hok.nb he2 he h
      subst this
      exact of_decide_eq_false hq
   ·refine za rfl ?_
    have hiu : inUse sp sn = false := by
     unfold inUse
     rw [List.any_eq_false]
     intro e he
     simpa using hs e he (hall e he)
    refine ZZ ?_
    refine zg [(0, none), (1, none), (2, none), (3, none), (4, none), (5, none), (6, none), (7, none), (8, none), (9, none), (10, none), (11, none), (12, none), (13, none), (14, none), (15, none), (16, some [10, 11, 12, 13, 14, 15]), (17, none), (18, some [10, 11, 14, 15]), (19, some [14, 15]), (20, none), (21, some [])] zm (by kernel_rfl) ?_
    iterate 16 refine WX2 ?_
    refine zh1 rfl rfl (zX1 (ke := encSt) (ve := encSt) (k := pr) (l := sp) (z := []) keySt rfl rfl (by decide) Tryz.underlying99 (by kernel_rfl) rfl rfl rfl (fun ρ H => encSt.den _ ρ H)) ?_
    rintro _ _ ⟨rfl, rfl⟩
    refine ⟨zi (by first | exact zr rfl rfl rfl (ZX (KF (t := 82) (f := 6) rfl rfl)) rfl) (zi (by first | exact zr rfl rfl rfl (ZL (KK (t := 9) rfl)) rfl) (zi (by first | exact zr rfl rfl rfl (ZX (KF (t := 82) (f := 6) rfl rfl)) rfl) (zi (by first | exact zr rfl rfl rfl (ZL (KK (t := 9) rfl)) rfl) (zi (by first | exact zr rfl rfl rfl (ZX (KF (t := 82) (f := 7) rfl rfl)) rfl) (zi (by first | exact zr rfl rfl rfl (ZL (KK (t := 3) rfl)) rfl) (zk)))))), ?_⟩
    refine WX2 ?_
    refine zh1 rfl rfl (zW1 (ke := encSt) (ve := encSt) (l := (mset spk pr ((mget sp pr).getD []) sp)) (z := sn) rfl rfl rfl rfl rfl zD1 rfl (fun ρ H => encSt.den _ ρ H)) ?_
    rintro _ _ ⟨rfl, rfl⟩
    refine ⟨zi (by first | exact zr rfl rfl rfl (ZX (KF (t := 82) (f := 6) rfl rfl)) rfl) (zi (by first | exact zr rfl rfl rfl (ZL (KK (t := 9) rfl)) rfl) (zi (by first | exact zr rfl rfl rfl (ZX (KF (t := 82) (f := 7) rfl rfl)) rfl) (zi (by first | exact zr rfl rfl rfl (ZL (KK (t := 3) rfl)) rfl) (zk)))), ?_⟩
    refine zh1 rfl rfl (zX1 (ke := encSt) (ve := encIn) (k := sn) (l := lf) (z := 0) keySt rfl rfl (by decide) Tryz.underlying90 (by kernel_rfl) rfl rfl rfl (fun ρ H => encSt.den _ ρ H)) ?_
    rintro _ _ ⟨rfl, rfl⟩
    refine ⟨zi (by first | exact zr rfl rfl rfl (ZX (KF (t := 82) (f := 7) rfl rfl)) rfl) (zi (by first | exact zr rfl rfl rfl (ZL (KK (t := 3) rfl)) rfl) (zk)), ?_⟩
    refine WX2 ?_
    refine zh1 rfl rfl (zW1 (ke := encSt) (ve := encIn) (l := (mset lfk sn ((mget lf sn).getD 0) lf)) (z := n) rfl rfl rfl rfl rfl zD1 rfl (fun ρ H => encIn.den _ ρ H)) ?_
    rintro _ _ ⟨rfl, rfl⟩
    refine ⟨zk, ?_⟩
    refine WQ ?_
    all_goals (
     rw [zE1 hsp.hb hsp.nb, zE1 hlm.hb hlm.nb]
     refine WA ?_
     have hre : rfE ⟨jxs X, sp, spk, lf, lfk, us, usk⟩ ⟨st, no, at_, 5, pr, jb, sn, n, of_, ot⟩ = 0 := by simp [rfE, hiu]
     exact ze [some 0, some 1, some 2, some 3, some 4, some 5, some 6, some 7, some 8] [.box [.mp 1, .mp 2, .mp 3, .mp 4, .o 5 0 (R1).length c1, .o 6 0 (R2).length c2], mSP (jlF 0 (jxs X) bl) (X).length, mSS (mset spk pr sn sp) (mclk spk pr sp), mSI (mset lfk sn n lf) (mclk lfk sn lf), mSI us usk, .arr 3 1 c1 (nR (R1)), .arr 32 1 c2 (nR (R2)), .pool (plF jbQ X bl), .pool (X.map jbA)] rfl rfl rfl (by decide) (ZNK rfl) ZCH ⟨X, bl, _, by rw [hre], by rw [hre, if_pos rfl], by simp [ntS], hbl, by simp [ntS]⟩)
  by_cases h6 : kn = 6
  ·subst h6
   refine WA ?_
   refine za rfl ?_
   refine ZZ ?_
   refine WA ?_
   refine za rfl ?_
   refine ZZ ?_
   refine WA ?_
   refine za rfl ?_
   refine ZZ ?_
   refine WA ?_
   refine za rfl ?_
   refine ZZ ?_
   refine WA ?_
   refine za rfl ?_
   refine ZZ ?_
   refine WA ?_
   refine zb rfl ?_
   refine ZZ ?_
   rcases hsg : mget sp pr with _ | kk
   ·have hs1 : (mget sp pr).getD [] = [] := by rw [hsg]; rfl
    have hs2 : (mget sp pr).isSome = false := by rw [hsg]; rfl
    refine ZZ ?_
    refine zg [(0, none), (1, none), (2, none), (3, none), (4, none), (5, none), (6, none), (7, none), (8, none), (9, none), (10, none), (11, none)] zm (by kernel_rfl) ?_
    iterate 6 refine WX2 ?_
    refine ZT rfl (zQ1 (k := pr) (l := sp) hs1 hs2 rfl rfl rfl rfl) ?_
    refine WQ ?_
    refine WA ?_
    refine zb rfl ?_
    refine WA ?_
    have hre : rfE ⟨jxs X, sp, spk, lf, lfk, us, usk⟩ ⟨st, no, at_, 6, pr, jb, sn, n, of_, ot⟩ = 8 := by simp [rfE, hsg]
    exact ze [some 0, some 1, some 2, some 3, some 4, some 5, some 6, some 7, some 8] [.box [.mp 1, .mp 2, .mp 3, .mp 4, .o 5 0 (R1).length c1, .o 6 0 (R2).length c2], mSP (jlF 0 (jxs X) bl) (X).length, mSS sp spk, mSI lf lfk, mSI us usk, .arr 3 1 c1 (nR (R1)), .arr 32 1 c2 (nR (R2)), .pool (plF jbQ X bl), .pool (X.map jbA)] rfl rfl rfl (by decide) (ZNK rfl) ZCH ⟨X, bl, _, by rw [hre], by rw [hre, if_neg (by decide)], rfl, hbl, rfl⟩
   ·have hs1 : (mget sp pr).getD [] = kk := by rw [hsg]; rfl
    have hs2 : (mget sp pr).isSome = true := by rw [hsg]; rfl
    obtain ⟨lv, hlf⟩ : ∃ q, (mget lf kk).getD 0 = q := ⟨_, rfl⟩
    obtain ⟨uv, hus⟩ : ∃ q, (mget us kk).getD 0 = q := ⟨_, rfl⟩
    have hlv := hS.l kk
    have huv := hS.u kk
    rw [hlf] at hlv
    rw [hus] at huv
    have hnb := hn0 rfl
    refine ZZ ?_
    refine zg [(0, none), (1, none), (2, none), (3, none), (4, none), (5, none), (6, none), (7, none), (8, none), (9, none), (10, none), (11, none)] zm (by kernel_rfl) ?_
    iterate 6 refine WX2 ?_
    refine ZT rfl (zQ1 (k := pr) (l := sp) hs1 hs2 rfl rfl rfl rfl) ?_
    refine WQ ?_
    refine WA ?_
    refine za rfl ?_
    refine ZZ ?_
    refine zg [(0, none), (1, none), (2, none), (3, none), (4, none), (5, none), (6, none), (7, none), (8, none), (9, none)] zm (by kernel_rfl) ?_
    iterate 5 refine WX2 ?_
    refine ZT rfl (zX (k := kk) (l := lf) hlf rfl rfl rfl rfl) ?_
    refine WQ ?_
    refine zu rfl (fun g1 => ?_) (fun g1 => ?_)
    ·refine WA ?_
     have hre : rfE ⟨jxs X, sp, spk, lf, lfk, us, usk⟩ ⟨st, no, at_, 6, pr, jb, sn, n, of_, ot⟩ = 12 := by simp [rfE, hsg, hlf, g1]
     exact ze [some 0, some 1, some 2, some 3, some 4, some 5, some 6, some 7, some 8] [.box [.mp 1, .mp 2, .mp 3, .mp 4, .o 5 0 (R1).length c1, .o 6 0 (R2).length c2], mSP (jlF 0 (jxs X) bl) (X).length, mSS sp spk, mSI lf lfk, mSI us usk, .arr 3 1 c1 (nR (R1)), .arr 32 1 c2 (nR (R2)), .pool (plF jbQ X bl), .pool (X.map jbA)] rfl rfl rfl (by decide) (ZNK rfl) ZCH ⟨X, bl, _, by rw [hre], by rw [hre, if_neg (by decide)], rfl, hbl, rfl⟩
    refine ZZ ?_
    have hlmm : (mget (mset lfk kk ((mget lf kk).getD 0) lf) kk).getD 0 = lv := by rw [ze1, if_pos rfl]; exact hlf
    refine ZZ ?_
    refine zg [(0, none), (1, none), (2, none), (3, none), (4, none), (5, none), (6, none), (7, none), (8, none), (9, none), (10, none), (11, none), (12, none), (13, none), (14, none), (15, none), (16, none), (17, none), (18, none), (19, none), (20, none), (21, none), (22, none), (23, none), (24, none), (25, none), (26, none), (27, none), (28, some [9, 10, 11, 12, 13, 14, 15, 16, 17, 18, 25, 26, 27]), (29, none), (30, some [9, 25, 26, 27]), (31, some [25, 26, 27]), (32, none), (33, some [])] zm (by kernel_rfl) ?_
    iterate 15 refine WX2 ?_
    refine ZT rfl (by first | exact zX (k := kk) (l := lf) hlf rfl rfl rfl rfl | exact zX (k := kk) (l := mset lfk kk ((mget lf kk).getD 0) lf) hlmm rfl rfl rfl rfl) ?_
    iterate 8 refine WX2 ?_
    refine ZT rfl (zX (k := kk) (l := us) hus rfl rfl rfl rfl) ?_
    iterate 3 refine WX2 ?_
    refine zh1 rfl rfl (zX1 (ke := encSt) (ve := encIn) (k := kk) (l := lf) (z := 0) keySt rfl rfl (by decide) Tryz.underlying90 (by kernel_rfl) rfl rfl rfl (fun ρ H => encSt.den _ ρ H)) ?_
    rintro _ _ ⟨rfl, rfl⟩
    refine ⟨zi (by first | exact zr rfl rfl rfl (zw2 rfl rfl) rfl) (zi (by first | exact zr rfl rfl rfl (zw2 rfl rfl) rfl) (zi (by first | exact zr rfl rfl rfl (rd_nil rfl rfl) rfl | exact zr rfl rfl rfl (rd_nilq rfl rfl) rfl) (zi (by first | exact zr rfl rfl rfl (ZX (KF (t := 119) (f := 2) rfl rfl)) rfl) (zi (by first | exact zr rfl rfl rfl (ZL (KK (t := 90) rfl)) rfl) (zi (by first | exact zr rfl rfl rfl (zw2 rfl rfl) rfl) (zi (by first | exact zr rfl rfl rfl (by first | exact zX (k := kk) (l := lf) hlf rfl rfl rfl rfl | exact zX (k := kk) (l := mset lfk kk ((mget lf kk).getD 0) lf) hlmm rfl rfl rfl rfl) rfl) (zi (by first | exact zr rfl rfl rfl (ZX (KF (t := 82) (f := 7) rfl rfl)) rfl) (zi (by first | exact zr rfl rfl rfl (ZL (KK (t := 3) rfl)) rfl) (zi (by first | exact zr rfl rfl rfl (Zsub) rfl) (zi (by first | exact zr rfl rfl rfl (ZX (KF (t := 82) (f := 7) rfl rfl)) rfl) (zi (by first | exact zr rfl rfl rfl (ZL (KK (t := 3) rfl)) rfl) (zi (by first | exact zr rfl rfl rfl (Zadd) rfl) (zk))))))))))))), ?_⟩
    refine WX2 ?_
    refine zh1 rfl rfl (zW1 (ke := encSt) (ve := encIn) (l := (mset lfk kk ((mget lf kk).getD 0) lf)) (z := lv - n) rfl rfl rfl rfl rfl zD1 rfl (fun ρ H => encIn.den _ ρ H)) ?_
    rintro _ _ ⟨rfl, rfl⟩
    refine ⟨zi (by first | exact zr rfl rfl rfl (zw2 rfl rfl) rfl) (zi (by first | exact zr rfl rfl rfl (ZX (KF (t := 82) (f := 7) rfl rfl)) rfl) (zi (by first | exact zr rfl rfl rfl (ZL (KK (t := 3) rfl)) rfl) (zi (by first | exact zr rfl rfl rfl (Zadd) rfl) (zk)))), ?_⟩
    refine zh1 rfl rfl (zX1 (ke := encSt) (ve := encIn) (k := kk) (l := us) (z := 0) keySt rfl rfl (by decide) Tryz.underlying90 (by kernel_rfl) rfl rfl rfl (fun ρ H => encSt.den _ ρ H)) ?_
    rintro _ _ ⟨rfl, rfl⟩
    refine ⟨zi (by first | exact zr rfl rfl rfl (ZX (KF (t := 82) (f := 7) rfl rfl)) rfl) (zi (by first | exact zr rfl rfl rfl (ZL (KK (t := 3) rfl)) rfl) (zi (by first | exact zr rfl rfl rfl (Zadd) rfl) (zk))), ?_⟩
    refine WX2 ?_
    refine zh1 rfl rfl (zW1 (ke := encSt) (ve := encIn) (l := (mset usk kk ((mget us kk).getD 0) us)) (z := uv + n) rfl rfl rfl rfl rfl zD1 rfl (fun ρ H => encIn.den _ ρ H)) ?_
    rintro _ _ ⟨rfl, rfl⟩
    refine ⟨zk, ?_⟩
    refine WQ ?_
    all_goals (
     rw [zE1 hlm.hb hlm.nb, zE1 hum.hb hum.nb]
     refine WA ?_
     have hre : rfE ⟨jxs X, sp, spk, lf, lfk, us, usk⟩ ⟨st, no, at_, 6, pr, jb, sn, n, of_, ot⟩ = 0 := by simp [rfE, hsg, hlf, g1]
     exact ze [some 0, some 1, some 2, some 3, some 4, some 5, some 6, some 7, some 8] [.box [.mp 1, .mp 2, .mp 3, .mp 4, .o 5 0 (R1).length c1, .o 6 0 (R2).length c2], mSP (jlF 0 (jxs X) bl) (X).length, mSS sp spk, mSI (mset lfk kk (lv - n) lf) (mclk lfk kk lf), mSI (mset usk kk (uv + n) us) (mclk usk kk us), .arr 3 1 c1 (nR (R1)), .arr 32 1 c2 (nR (R2)), .pool (plF jbQ X bl), .pool (X.map jbA)] rfl rfl rfl (by decide) (ZNK rfl) ZCH ⟨X, bl, _, by rw [hre], by rw [hre, if_pos rfl], by simp [ntS], hbl, by simp [ntS, hsg, hlf, hus]⟩)
  refine WA ?_
  refine za rfl ?_
  refine ZZ ?_
  refine WA ?_
  refine za rfl ?_
  refine ZZ ?_
  refine WA ?_
  refine za rfl ?_
  refine ZZ ?_
  refine WA ?_
  refine za rfl ?_
  refine ZZ ?_
  refine WA ?_
  refine za rfl ?_
  refine ZZ ?_
  refine WA ?_
  refine za rfl ?_
  refine ZZ ?_
  refine WA ?_
  have hre : rfE ⟨jxs X, sp, spk, lf, lfk, us, usk⟩ ⟨st, no, at_, kn, pr, jb, sn, n, of_, ot⟩ = 0 := by simp [rfE, h1, h2, h3, h4, h5, h6]
  exact ze [some 0, some 1, some 2, some 3, some 4, some 5, some 6, some 7, some 8] [.box [.mp 1, .mp 2, .mp 3, .mp 4, .o 5 0 (R1).length c1, .o 6 0 (R2).length c2], mSP (jlF 0 (jxs X) bl) (X).length, mSS sp spk, mSI lf lfk, mSI us usk, .arr 3 1 c1 (nR (R1)), .arr 32 1 c2 (nR (R2)), .pool (plF jbQ X bl), .pool (X.map jbA)] rfl rfl rfl (by decide) (ZNK rfl) ZCH ⟨X, bl, _, by rw [hre], by rw [hre, if_pos rfl], by simp [ntS, h1, h2, h3, h4, h5, h6], hbl, by simp [ntS, h1, h2, h3, h4, h5, h6]⟩
end Go.Proofs.YtcdeonjdipcgpaaGreatDoor
