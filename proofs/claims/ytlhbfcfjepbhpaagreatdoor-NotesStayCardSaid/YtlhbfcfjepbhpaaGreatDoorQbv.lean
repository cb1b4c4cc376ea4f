/- The document's books, by value: FilamentOf. -/
import Derived.Test.YtlhbfcfjepbhpaaGreatDoorQbu
import Derived.Test.YtlhbfcfjepbhpaaGreatDoorQbs
import Derived.Test.YtlhbfcfjepbhpaaGreatDoorQbb
import Derived.Test.YtlhbfcfjepbhpaaGreatDoorQbj
import Derived.Test.YtlhbfcfjepbhpaaGreatDoorQbf
import Derived.Test.YtlhbfcfjepbhpaaGreatDoorQal
import Derived.Test.YtlhbfcfjepbhpaaGreatDoorQbe
import Derived.Test.YtlhbfcfjepbhpaaGreatDoorQau
import Derived.Shelf.Strconv.Itoa3
import Derived.Lib.LaidTab
import Derived.Test.YtlhbfcfjepbhpaaGreatDoorProg
import Derived.Lib.ItoaLen
set_option linter.unusedSimpArgs false
set_option linter.unusedVariables false
namespace Go.Proofs.YtlhbfcfjepbhpaaGreatDoor
open Go Go.RowKit
theorem ntF_ok {x : Nt} (h : ntF x = 0) : (x.kd = 1 → keyB x.jb = true ∧ 1 ≤ x.n ∧ x.n ≤ 1000) ∧ (x.kd = 2 → 1 ≤ x.n ∧ x.n ≤ 1000) ∧ (x.kd = 5 → keyB x.sp = true ∧ 1 ≤ x.n ∧ x.n ≤ 100000000) ∧ (x.kd = 6 → 1 ≤ x.n ∧ x.n ≤ 100000000) := by
 unfold ntF at h
 split at h
 ·cases h
 split at h
 ·cases h
 split at h
 ·cases h
 split at h
 ·cases h
 rename_i h4
 split at h
 ·cases h
 rename_i h5
 clear h
 refine ⟨fun hk => ?_, fun hk => ?_, fun hk => ?_, fun hk => ?_⟩
 all_goals
  rw [hk] at h4 h5
  simp [uP, uJ, uS, uU, uM, outB] at h4 h5
 ·exact ⟨h4.2, by omega, by omega⟩
 ·omega
 ·exact ⟨h4.2, by omega, by omega⟩
 ·omega
theorem key_ne {s : List UInt8} (h : keyB s = true) : s ≠ [] := fun e => by subst e; simp [keyB] at h
structure BkOk (b : Bk) (k : Nat) : Prop where
 js : JsOk b.js
 sp : MapOk b.sp b.spk
 lf : MapOk b.lf b.lfk
 us : MapOk b.us b.usk
 l : ∀ s, 0 ≤ (mget b.lf s).getD 0 ∧ (mget b.lf s).getD 0 ≤ 100000000
 u : ∀ s, 0 ≤ (mget b.us s).getD 0 ∧ (mget b.us s).getD 0 ≤ 100000000 * (k : Int)
theorem BkOk.spb {b : Bk} {k : Nat} (h : BkOk b k) (hk : k ≤ 2000) : SpB b.lf b.us := ⟨h.l, fun s => ⟨(h.u s).1, by have := (h.u s).2; omega⟩⟩
theorem JsOk.nil : JsOk [] := ⟨fun i k a b h => by simp at h, fun i k a b h => by simp at h, fun j h => (by cases h), fun j h => (by cases h), fun j h => (by cases h)⟩
theorem BkOk.zero : BkOk bk0 0 := ⟨JsOk.nil, .nil, .nil, .nil, fun s => by simp [bk0, mget], fun s => by simp [bk0, mget]⟩
theorem BkOk.more {b : Bk} {k : Nat} (h : BkOk b k) : BkOk b (k + 1) := ⟨h.js, h.sp, h.lf, h.us, h.l, fun s => ⟨(h.u s).1, by have := (h.u s).2; omega⟩⟩
theorem JsOk.lay {js : List Jb} (h : JsOk js) {p : List UInt8} {k : Nat} {j : Jb} {t : Int} (hr : runI js p = some k) (hk : js[k]? = some j) (hl : (j.ly.length : Int) + 1 ≤ j.all) : JsOk (layJ js p t) := by
 unfold layJ
 rw [hr]
 have hm := List.mem_of_getElem? hk
 exact h.mod hk (fun _ => rfl) (fun _ => rfl) (fun _ h => h) (h.st j hm) (by have := (h.all j hm).2; simp; omega)
theorem JsOk.stop {js : List Jb} (h : JsOk js) {p : List UInt8} {k : Nat} {j : Jb} {s t : Int} (hr : runI js p = some k) (hk : js[k]? = some j) (hs : s = 1 ∨ s = 2) : JsOk (stopJ js p s t) := by
 unfold stopJ
 rw [hr]
 have hm := List.mem_of_getElem? hk
 exact h.mod hk (fun _ => rfl) (fun _ => rfl) (fun _ h => by simp at h; omega) (.inr hs) (h.all j hm)
theorem runJ_at {js : List Jb} {p : List UInt8} {k : Nat} {j : Jb} (hr : runI js p = some k) (hk : js[k]? = some j) : runJ js p = some j := by unfold runJ; rw [hr]; exact hk
theorem BkOk.next {b : Bk} {k : Nat} {x : Nt} (h : BkOk b k) (hx : ntF x = 0) (hr : rfE b x = 0) : BkOk (ntS b x) (k + 1) := by
 obtain ⟨f1, f2, f5, f6⟩ := ntF_ok hx
 unfold rfE at hr
 unfold ntS
 by_cases h1 : x.kd = 1
 ·rw [if_pos h1] at hr ⊢
  obtain ⟨g1, g2, g3⟩ := f1 h1
  have e1 : nmI b.js x.jb = none := by
   cases hq : nmI b.js x.jb with
   | none => rfl
   | some q => simp [hq] at hr
  have e2 : runI b.js x.pr = none := by
   cases hq : runI b.js x.pr with
   | none => rfl
   | some q => simp [hq, e1] at hr
  exact ⟨h.js.begin e1 e2 rfl (key_ne g1) rfl ⟨show (0 : Int) ≤ x.n by omega, g3⟩, h.sp, h.lf, h.us, h.l, h.more.u⟩
 rw [if_neg h1] at hr ⊢
 by_cases h2 : x.kd = 2
 ·rw [if_pos h2] at hr ⊢
  cases hq : runI b.js x.pr with
  | none => simp [runJ, hq] at hr
  | some q =>
   obtain ⟨j, hj, _, _⟩ := zh2 hq
   rw [runJ_at hq hj] at hr
   simp only at hr
   split at hr
   ·cases hr
   ·rename_i hn
    split at hr
    ·cases hr
    ·rename_i hn2
     exact ⟨h.js.lay hq hj (by omega), h.sp, h.lf, h.us, h.l, h.more.u⟩
 rw [if_neg h2] at hr ⊢
 by_cases h3 : x.kd = 3
 ·rw [if_pos h3] at hr ⊢
  cases hq : runI b.js x.pr with
  | none => simp [runJ, hq] at hr
  | some q =>
   obtain ⟨j, hj, _, _⟩ := zh2 hq
   exact ⟨h.js.stop hq hj (.inl rfl), h.sp, h.lf, h.us, h.l, h.more.u⟩
 rw [if_neg h3] at hr ⊢
 by_cases h4 : x.kd = 4
 ·rw [if_pos h4] at hr ⊢
  cases hq : runI b.js x.pr with
  | none => simp [hq] at hr
  | some q =>
   obtain ⟨j, hj, _, _⟩ := zh2 hq
   exact ⟨h.js.stop hq hj (.inr rfl), h.sp, h.lf, h.us, h.l, h.more.u⟩
 rw [if_neg h4] at hr ⊢
 by_cases h5 : x.kd = 5
 ·rw [if_pos h5] at hr ⊢
  obtain ⟨_, g2, g3⟩ := f5 h5
  refine ⟨h.js, h.sp.set _ _, h.lf.set _ _, h.us, fun s => ?_, h.more.u⟩
  simp only
  rw [zg1]
  split
  ·simp only [Option.getD_some]; omega
  ·exact h.l s
 rw [if_neg h5] at hr ⊢
 by_cases h6 : x.kd = 6
 ·rw [if_pos h6] at hr ⊢
  obtain ⟨g2, g3⟩ := f6 h6
  cases hq : mget b.sp x.pr with
  | none => simp [hq] at hr
  | some kk =>
   simp only [hq] at hr
   have hlf := h.l kk
   have hus := h.u kk
   have hn : ¬ (mget b.lf kk).getD 0 < x.n := fun h => by simp [h] at hr
   refine ⟨h.js, h.sp, h.lf.set _ _, h.us.set _ _, fun s => ?_, fun s => ?_⟩
   ·simp only [Option.getD_some]
    rw [zg1]
    split
    ·simp only [Option.getD_some]; omega
    ·exact h.l s
   ·simp only [Option.getD_some]
    rw [zg1]
    split
    ·simp only [Option.getD_some]; omega
    ·exact h.more.u s
 rw [if_neg h6]
 exact h.more
end Go.Proofs.YtlhbfcfjepbhpaaGreatDoor
-- NEWM
namespace Go.Proofs.YtlhbfcfjepbhpaaGreatDoor
open Go Go.RowKit
set_option maxRecDepth 100000
section
variable {P : Program} {N : Nat} {E : Env} {F : Fm} {H : List OB} {K : Fm → List OB → Prop} {Q : Exit → Fm → List OB → Prop}
end
theorem jlF_mem : ∀ {js : List Jb} {bl : List Nat} {i : Nat} {e : Nat × List UInt8 × Value}, e ∈ jlF i js bl → ∃ k j b, js[k]? = some j ∧ bl[k]? = some b ∧ e = (i + k, j.nm, ptrV b)
 | [], _, _, _, h => by simp [jlF] at h
 | _ :: _, [], _, _, h => by simp [jlF] at h
 | x :: js, d :: bl, i, e, h => by
  simp only [jlF, List.mem_cons] at h
  rcases h with rfl | h
  ·exact ⟨0, x, d, rfl, rfl, rfl⟩
  ·obtain ⟨k, j, b, h1, h2, h3⟩ := jlF_mem h
   exact ⟨k + 1, j, b, by simpa using h1, by simpa using h2, by rw [h3, show i + 1 + k = i + (k + 1) by omega]⟩
theorem jlF_in : ∀ {js : List Jb} {bl : List Nat} {i k : Nat} {j : Jb} {b : Nat}, js[k]? = some j → bl[k]? = some b → (i + k, j.nm, ptrV b) ∈ jlF i js bl
 | [], _, _, _, _, _, h, _ => by simp at h
 | _ :: _, [], _, _, _, _, _, h => by simp at h
 | x :: js, d :: bl, i, 0, j, b, h1, h2 => by
  simp only [List.getElem?_cons_zero, Option.some.injEq] at h1 h2
  subst h1; subst h2
  simp [jlF]
 | x :: js, d :: bl, i, k + 1, j, b, h1, h2 => by
  simp only [List.getElem?_cons_succ] at h1 h2
  have := jlF_in (i := i + 1) h1 h2
  rw [show i + 1 + k = i + (k + 1) by omega] at this
  exact List.mem_cons_of_mem _ this
theorem zS3 : ∀ {js : List Jb} {bl : List Nat} {i : Nat}, bl.length = js.length → (jlF i js bl).map (·.1) = List.range' i js.length
 | [], [], _, _ => rfl
 | x :: js, d :: bl, i, h => by
  simp only [jlF, List.map_cons, List.length_cons, List.range'_succ]
  rw [zS3 (by simpa using h)]
 | [], _ :: _, _, h => by simp at h
 | _ :: _, [], _, h => by simp at h
theorem jlF_names : ∀ {js : List Jb} {bl : List Nat} {i : Nat}, bl.length = js.length → (jlF i js bl).map (·.2.1) = js.map Jb.nm
 | [], [], _, _ => rfl
 | x :: js, d :: bl, i, h => by
  simp only [jlF, List.map_cons]
  rw [jlF_names (by simpa using h)]
 | [], _ :: _, _, h => by simp at h
 | _ :: _, [], _, h => by simp at h
theorem JsOk.names {js : List Jb} (h : JsOk js) : (js.map Jb.nm).Nodup := by
 rw [List.Nodup, List.pairwise_iff_getElem]
 intro i k hi hk hik
 rw [List.length_map] at hi hk
 rw [List.getElem_map, List.getElem_map]
 exact fun e => by have := h.nm i k _ _ (List.getElem?_eq_getElem hi) (List.getElem?_eq_getElem hk) e; omega
theorem jlF_ok {js : List Jb} {bl : List Nat} (h : JsOk js) (hb : bl.length = js.length) : MapOk (jlF 0 js bl) js.length :=
 ⟨fun e he => by
  obtain ⟨k, j, b, h1, _, rfl⟩ := jlF_mem he
  have := (List.getElem?_eq_some_iff.1 h1).1
  simpa using this, by rw [zS3 hb]; exact List.nodup_range', by rw [jlF_names hb]; exact h.names⟩
end Go.Proofs.YtlhbfcfjepbhpaaGreatDoor
-- NEWM
namespace Go.Proofs.YtlhbfcfjepbhpaaGreatDoor
open Go Go.RowKit
set_option maxRecDepth 100000
end Go.Proofs.YtlhbfcfjepbhpaaGreatDoor
-- NEWM
namespace Go.Proofs.YtlhbfcfjepbhpaaGreatDoor
open Go Go.RowKit
set_option maxRecDepth 100000
theorem bkK_len (l : List Nt) (ix : List Int) : ∀ k, (bkK l ix k).2.1.length ≤ k ∧ (bkK l ix k).2.2.length ≤ k
 | 0 => by simp [bkK]
 | k + 1 => by
  have h := bkK_len l ix k
  rw [bkK]
  split
  ·split
   ·unfold bkStep
    split <;> simp <;> omega
   ·omega
  ·omega
set_option maxHeartbeats 4000000 in
theorem booksat_v (v : Value) (l : List Nt) (at_ : Int) (hl : l.length ≤ 2000) (hs : ∀ x ∈ l, ntF x = 0) (hix : ∀ i ∈ cntP at_ l, ∃ k : Nat, i = k ∧ k < l.length) : ACalls Tryz.prog 84 [.c (.r v (noRs l)), .c (I at_)] [] fun u H => ∃ (b : Bk) (R1 R2 : List Int) (bl : List Nat) (rl : List (Nat × List UInt8 × List UInt8)) (rk c1 c2 : Nat), bksF l (cntP at_ l) = (b, R1, R2) ∧ BkOk b 2000 ∧ bl.length = b.js.length ∧ RunOk b.js rl ∧ MapOk rl rk ∧ R1.length ≤ 2000 ∧ R2.length ≤ 2000 ∧ R1.length ≤ c1 ∧ R2.length ≤ c2 ∧ u = .p 0 0 0 ∧ H = [.box [.mp 1, .mp 2, .mp 3, .mp 4, .mp 5, .o 6 0 (R1).length c1, .o 7 0 (R2).length c2], mSP (jlF 0 b.js bl) b.js.length, mSS rl rk, mSS b.sp b.spk, mSI b.lf b.lfk, mSI b.us b.usk, .arr 3 1 c1 (nR (R1)), .arr 30 1 c2 (nR (R2)), .pool (plF jbP b.js bl)] := by
 have hcl : (cntP at_ l).length ≤ 2000 := by
  have := za4 at_ l l.length (Nat.le_refl _)
  unfold cntP
  rw [List.length_reverse]
  omega
 refine zg (N := 60) Tryz.func84 rfl rfl (by simp) fun E hE => ?_
 refine WA ?_
 refine ZR ?_
 refine zh rfl (zC1 rfl rfl (by decide)) ?_
 rintro _ _ ⟨rfl, rfl⟩
 refine zh rfl (zC1 rfl rfl (by decide)) ?_
 rintro _ _ ⟨rfl, rfl⟩
 refine zh rfl (zC1 rfl rfl (by decide)) ?_
 rintro _ _ ⟨rfl, rfl⟩
 refine zh rfl (zC1 rfl rfl (by decide)) ?_
 rintro _ _ ⟨rfl, rfl⟩
 refine zh rfl (zC1 rfl rfl (by decide)) ?_
 rintro _ _ ⟨rfl, rfl⟩
 refine WE ?_
 refine WR ?_
 refine zh rfl (zc false (fun _ => counting_v v l at_ (by omega)) rfl .fn rfl (by decide) (by kernel_rfl) rfl (fun _ => C0 rfl) (by simp)) ?_
 rintro _ _ ⟨_, _, _, ⟨c, hc, rfl, rfl⟩, hF, hH⟩
 (refine NST hF hH ?_; clear hF hH; rintro rfl rfl)
 refine WE ?_
 refine aw_wk (wk_pool0 (K := fun F' H' => F' = _ ∧ H' = _) ⟨rfl, rfl⟩) ?_
 rintro _ _ ⟨rfl, rfl⟩
 refine zC (fun m F H => ∃ (k : Nat) (b : Bk) (R1 R2 : List Int) (bl : List Nat) (rl : List (Nat × List UInt8 × List UInt8)) (rk c1 c2 : Nat), m + k = (cntP at_ l).length ∧ bkK l (cntP at_ l) k = (b, R1, R2) ∧ BkOk b k ∧ bl.length = b.js.length ∧ RunOk b.js rl ∧ MapOk rl rk ∧ R1.length ≤ c1 ∧ R2.length ≤ c2 ∧ F = [(0, .c (.r v (noRs l))), (5, .p 0 0 0), (18, .o 9 0 (cntP at_ l).length c), (19, .c (I (cntP at_ l).length)), (20, .c (I k))] ∧ H = [.box [.mp 1, .mp 2, .mp 3, .mp 4, .mp 5, .o 6 0 (R1).length c1, .o 7 0 (R2).length c2], mSP (jlF 0 b.js bl) b.js.length, mSS rl rk, mSS b.sp b.spk, mSI b.lf b.lfk, mSI b.us b.usk, .arr 3 1 c1 (nR (R1)), .arr 30 1 c2 (nR (R2)), .pool (plF jbP b.js bl), .arr 3 1 c (nR (cntP at_ l))]) ?_ ?_
 ·refine zl [some 5, some 0, some 1, some 2, some 3, some 4, none, none, some 7, some 6] (fun _ => [(0, .c (.r v (noRs l))), (5, .p 0 0 0), (18, .o 9 0 (cntP at_ l).length c), (19, .c (I (cntP at_ l).length)), (20, .c (I (0 : Nat)))]) (fun _ => [.box [.mp 1, .mp 2, .mp 3, .mp 4, .mp 5, .o 6 0 0 0, .o 7 0 0 0], mSP [] 0, mSS [] 0, mSS [] 0, mSI [] 0, mSI [] 0, .arr 3 1 0 [], .arr 30 1 0 [], .pool [], .arr 3 1 c (nR (cntP at_ l))]) (by decide) (ZNL hE) ZCF ZCH (fun _ => ?_)
  exact ⟨_, 0, bk0, [], [], [], [], 0, 0, 0, Nat.add_zero _, rfl, .zero, rfl, fun s => rfl, .nil, Nat.le_refl _, Nat.le_refl _, rfl, rfl⟩
 rintro m F H ⟨k, b, R1, R2, bl, rl, rk, c1, c2, hk, hbk, hB, hbl, hrl, hrm, hc1, hc2, rfl, rfl⟩
 have hRl := bkK_len l (cntP at_ l) k
 rw [hbk] at hRl
 simp only at hRl
 refine WA ?_
 refine zq rfl (fun hlt => ?_) (fun hge => ?_)
 ·obtain ⟨i0, hi0⟩ : ∃ z, (cntP at_ l)[k]? = some z := ⟨_, List.getElem?_eq_getElem (by omega)⟩
  obtain ⟨i, rfl, hil⟩ := hix i0 (List.mem_of_getElem? hi0)
  have hrow : (nR (cntP at_ l))[k]? = some [I i] := by rw [List.getElem?_map, hi0]; rfl
  obtain ⟨x, hx⟩ : ∃ x, l[i]? = some x := ⟨_, List.getElem?_eq_getElem hil⟩
  have hrow0 := zE1 hx
  have hxn := hs x (List.mem_of_getElem? hx)
  have hst := bkK_next hi0 (show l[((i : Nat) : Int).toNat]? = some x from hx)
  rw [hbk] at hst
  have hn6 : x.kd = 6 → 0 ≤ x.n ∧ x.n ≤ 100000000 := fun h => by have := (ntF_ok hxn).2.2.2 h; omega
  obtain ⟨st, no, xat, kn, pr, jb, sn, n, of_, ot⟩ := x
  have hrow2 : (noRs l)[i]? = some [T st, I no, I xat, I kn, T pr, T jb, T sn, I n, T of_, I ot] := hrow0
  refine WA ?_
  refine WR ?_
  refine zh rfl (zb1 [0, 1, 2, 3, 4, 5, 6, 7, 8] (fun _ => [.box [.mp 1, .mp 2, .mp 3, .mp 4, .mp 5, .o 6 0 (R1).length c1, .o 7 0 (R2).length c2], mSP (jlF 0 b.js bl) b.js.length, mSS rl rk, mSS b.sp b.spk, mSI b.lf b.lfk, mSI b.us b.usk, .arr 3 1 c1 (nR (R1)), .arr 30 1 c2 (nR (R2)), .pool (plF jbP b.js bl)]) false (fun _ => refusal_v b.js bl rl rk b.sp b.spk b.lf b.lfk b.us b.usk c1 c2 R1 R2 ⟨st, no, xat, kn, pr, jb, sn, n, of_, ot⟩ hB.js hbl hrl hB.sp) rfl .fn rfl (by decide) (by kernel_rfl) rfl (fun _ => .cons (.p rfl) (.cons (.aL (C0 rfl)) .nil)) (by decide) ZCH (by simp)) ?_
  rintro F1 H1 ⟨_, _, _, _, ⟨rfl, rfl⟩, hF, hH⟩
  rw [zS] at hF; (refine NSU hF hH ?_; clear hF hH; rintro rfl rfl)
  refine WE ?_
  generalize hrf : rfE b ⟨st, no, xat, kn, pr, jb, sn, n, of_, ot⟩ = e at hst ⊢
  refine WA ?_
  refine zq rfl (fun h1 => ?_) (fun h1 => ?_)
  ·have e1 : (nR R1).length = R1.length := by simp
   have e2 : (nR R2).length = R2.length := by simp
   have hst2 : bkK l (cntP at_ l) (k + 1) = (b, R1 ++ [(i : Int)], R2 ++ [e]) := by rw [hst, bkStep]; simp only; rw [hrf, if_pos h1]
   refine ZZ ?_
   refine zl3 [[(0, none), (1, none), (2, none), (3, none), (4, none), (5, none), (6, none), (9, none), (10, none), (11, none), (12, none), (13, none), (7, some [0, 1, 2, 3, 4, 5, 9, 10, 11, 12, 13]), (8, some [0, 1, 9, 10, 11, 12, 13]), (14, some [0, 1, 2, 3, 4, 5, 6, 9, 10, 11, 12]), (15, some [0, 1]), (16, none), (17, none), (18, some [1]), (19, none), (20, none), (21, some [])], [(0, none), (1, none), (2, none), (3, none), (4, none), (5, none), (6, none), (9, none), (10, none), (11, none), (12, none), (13, none), (7, some [0, 1, 2, 3, 4, 5, 9, 10, 11, 12, 13]), (14, some [0, 1, 2, 3, 4, 5, 6, 9, 10, 11, 12]), (8, some [0, 1, 9, 10, 11, 12, 13]), (15, some [0, 1]), (16, none), (17, none), (18, some [1]), (19, none), (20, none), (21, some [])], [(0, none), (1, none), (2, none), (3, none), (4, none), (5, none), (6, none), (9, none), (10, none), (11, none), (12, none), (13, none), (14, some [0, 1, 2, 3, 4, 5, 6, 9, 10, 11, 12]), (7, some [0, 1, 2, 3, 4, 5, 9, 10, 11, 12, 13]), (8, some [0, 1, 9, 10, 11, 12, 13]), (15, some [0, 1]), (16, none), (17, none), (18, some [1]), (19, none), (20, none), (21, some [])]] zr (by kernel_rfl) ?_
   focus
    refine WM ?_
    refine zt2 (by rfl) (by rfl) (by rfl) ?_ ?_
    rotate_left
    refine WM ?_
    refine zi1 (i := 8) (by rfl) (by rfl) rfl rfl (Zapp (news := [[I i]]) (j := 1) (hE := KA (t := 22) rfl) (hsrc := .own rfl rfl rfl) (hj := rfl) (hle := by omega)) ?_
    rintro F1 H1 ⟨_, cc1, hcc1, hF, hH⟩
    (refine NSU hF hH ?_; clear hF hH; rintro rfl rfl)
    refine ⟨AGX, ?_⟩
    refine zi1 (i := 15) (by rfl) (by rfl) rfl rfl (Zapp (news := [[I e]]) (j := 1) (hE := KA (t := 118) rfl) (hsrc := .own rfl rfl rfl) (hj := rfl) (hle := by omega)) ?_
    rintro F1 H1 ⟨_, cc2, hcc2, hF, hH⟩
    (refine NSU hF hH ?_; clear hF hH; rintro rfl rfl)
    refine ⟨AGX, ?_⟩
    refine WN ?_
    rotate_right
    refine WM ?_
    refine zt2 (by rfl) (by rfl) (by rfl) ?_ ?_
    rotate_left
    refine WM ?_
    refine zi1 (i := 8) (by rfl) (by rfl) rfl rfl (Zapp (news := [[I i]]) (j := 1) (hE := KA (t := 22) rfl) (hsrc := .own rfl rfl rfl) (hj := rfl) (hle := by omega)) ?_
    rintro F1 H1 ⟨_, cc1, hcc1, hF, hH⟩
    (refine NSU hF hH ?_; clear hF hH; rintro rfl rfl)
    refine ⟨AGX, ?_⟩
    refine zi1 (i := 15) (by rfl) (by rfl) rfl rfl (Zapp (news := [[I e]]) (j := 1) (hE := KA (t := 118) rfl) (hsrc := .own rfl rfl rfl) (hj := rfl) (hle := by omega)) ?_
    rintro F1 H1 ⟨_, cc2, hcc2, hF, hH⟩
    (refine NSU hF hH ?_; clear hF hH; rintro rfl rfl)
    refine ⟨AGX, ?_⟩
    refine WN ?_
    rotate_right
    refine zi1 (i := 8) (by rfl) (by rfl) rfl rfl (Zapp (news := [[I i]]) (j := 1) (hE := KA (t := 22) rfl) (hsrc := .own rfl rfl rfl) (hj := rfl) (hle := by omega)) ?_
    rintro F1 H1 ⟨_, cc1, hcc1, hF, hH⟩
    (refine NSU hF hH ?_; clear hF hH; rintro rfl rfl)
    refine ⟨AGX, ?_⟩
    refine WM ?_
    refine zi1 (i := 15) (by rfl) (by rfl) rfl rfl (Zapp (news := [[I e]]) (j := 1) (hE := KA (t := 118) rfl) (hsrc := .own rfl rfl rfl) (hj := rfl) (hle := by omega)) ?_
    rintro F1 H1 ⟨_, cc2, hcc2, hF, hH⟩
    (refine NSU hF hH ?_; clear hF hH; rintro rfl rfl)
    refine ⟨AGX, ?_⟩
    refine WN ?_
   all_goals (
    refine WA ?_
    refine zl [some 0, some 1, some 2, some 3, some 4, some 5, some 6, some 7, some 8, some 9] (fun _ => [(0, .c (.r v (noRs l))), (5, .p 0 0 0), (18, .o 9 0 (cntP at_ l).length c), (19, .c (I (cntP at_ l).length)), (20, .c (I (k + 1 : Nat)))]) (fun _ => [.box [.mp 1, .mp 2, .mp 3, .mp 4, .mp 5, .o 6 0 (R1 ++ [(i : Int)]).length cc1, .o 7 0 (R2 ++ [e]).length cc2], mSP (jlF 0 b.js bl) b.js.length, mSS rl rk, mSS b.sp b.spk, mSI b.lf b.lfk, mSI b.us b.usk, .arr 3 1 cc1 (nR (R1 ++ [(i : Int)])), .arr 30 1 cc2 (nR (R2 ++ [e])), .pool (plF jbP b.js bl), .arr 3 1 c (nR (cntP at_ l))]) (by decide) (ZNL hE) ZCF (by simp only [nR, List.map_append, List.length_append, List.length_singleton]; exact ZCH) (fun _ => ?_)
    exact ⟨m - 1, by omega, k + 1, b, _, _, bl, rl, rk, cc1, cc2, by omega, hst2, hB.more, hbl, hrl, hrm, by simp at hcc1 ⊢; omega, by simp at hcc2 ⊢; omega, rfl, rfl⟩)
  ·have h0 : e = 0 := Decidable.not_not.1 h1
   rw [h0] at hrf
   have hst2 : bkK l (cntP at_ l) (k + 1) = (ntS b ⟨st, no, xat, kn, pr, jb, sn, n, of_, ot⟩, R1, R2) := by rw [hst, bkStep]; simp only; rw [hrf, if_neg (by simp)]
   have hnx := hB.next hxn hrf
   refine ZZ ?_
   refine WR ?_
   refine zh rfl (zb1 [0, 1, 2, 3, 4, 5, 6, 7, 8] (fun _ => [.box [.mp 1, .mp 2, .mp 3, .mp 4, .mp 5, .o 6 0 (R1).length c1, .o 7 0 (R2).length c2], mSP (jlF 0 b.js bl) b.js.length, mSS rl rk, mSS b.sp b.spk, mSI b.lf b.lfk, mSI b.us b.usk, .arr 3 1 c1 (nR (R1)), .arr 30 1 c2 (nR (R2)), .pool (plF jbP b.js bl)]) false (fun _ => note_v b.js bl rl rk b.sp b.spk b.lf b.lfk b.us b.usk c1 c2 R1 R2 ⟨st, no, xat, kn, pr, jb, sn, n, of_, ot⟩ hB.js hbl hrl hrm hrf hn6 (hB.spb (by omega))) rfl .fn rfl (by decide) (by kernel_rfl) rfl (fun _ => .cons (.p rfl) (.cons (.aL (C0 rfl)) .nil)) (by decide) ZCH (by simp)) ?_
   rintro F1 H1 ⟨_, _, _, _, ⟨rfl, b2, bl2, rl2, rk2, hb2, hbl2, hrl2, hrm2, rfl⟩, hF, hH⟩
   rw [zS] at hF; (refine NSU hF hH ?_; clear hF hH; rintro rfl rfl)
   refine WE ?_
   rw [← hb2] at hst2 hnx
   refine WA ?_
   refine zl [some 0, some 1, some 2, some 3, some 4, some 5, some 6, some 7, some 8, some 9] (fun _ => [(0, .c (.r v (noRs l))), (5, .p 0 0 0), (18, .o 9 0 (cntP at_ l).length c), (19, .c (I (cntP at_ l).length)), (20, .c (I (k + 1 : Nat)))]) (fun _ => [.box [.mp 1, .mp 2, .mp 3, .mp 4, .mp 5, .o 6 0 (R1).length c1, .o 7 0 (R2).length c2], mSP (jlF 0 b2.js bl2) b2.js.length, mSS rl2 rk2, mSS b2.sp b2.spk, mSI b2.lf b2.lfk, mSI b2.us b2.usk, .arr 3 1 c1 (nR (R1)), .arr 30 1 c2 (nR (R2)), .pool (plF jbP b2.js bl2), .arr 3 1 c (nR (cntP at_ l))]) (by decide) (ZNL hE) ZCF ZCH (fun _ => ?_)
   exact ⟨m - 1, by omega, k + 1, b2, R1, R2, bl2, rl2, rk2, c1, c2, by omega, hst2, hnx, hbl2, hrl2, hrm2, hc1, hc2, rfl, rfl⟩
 obtain rfl : k = (cntP at_ l).length := by omega
 refine ZZ ?_
 refine WA ?_
 have hBB : BkOk b 2000 := ⟨hB.js, hB.sp, hB.lf, hB.us, hB.l, fun s => ⟨(hB.u s).1, by have := (hB.u s).2; omega⟩⟩
 exact aret_p [some 0, some 1, some 2, some 3, some 4, some 5, some 6, some 7, some 8] (fun _ => [.box [.mp 1, .mp 2, .mp 3, .mp 4, .mp 5, .o 6 0 (R1).length c1, .o 7 0 (R2).length c2], mSP (jlF 0 b.js bl) b.js.length, mSS rl rk, mSS b.sp b.spk, mSI b.lf b.lfk, mSI b.us b.usk, .arr 3 1 c1 (nR (R1)), .arr 30 1 c2 (nR (R2)), .pool (plF jbP b.js bl)]) rfl rfl rfl (by decide) (ZNK rfl) ZCH (fun _ => ⟨b, R1, R2, bl, rl, rk, c1, c2, hbk, hBB, hbl, hrl, hrm, by omega, by omega, hc1, hc2, rfl, rfl⟩)
end Go.Proofs.YtlhbfcfjepbhpaaGreatDoor
-- NEWM
namespace Go.Proofs.YtlhbfcfjepbhpaaGreatDoor
open Go Go.RowKit
set_option maxRecDepth 100000
def BkR (l : List Nt) (at_ : Int) (H : List OB) : Prop := ∃ (b : Bk) (R1 R2 : List Int) (bl : List Nat) (rl : List (Nat × List UInt8 × List UInt8)) (rk c1 c2 : Nat), bksF l (cntP at_ l) = (b, R1, R2) ∧ BkOk b 2000 ∧ bl.length = b.js.length ∧ RunOk b.js rl ∧ MapOk rl rk ∧ R1.length ≤ 2000 ∧ R2.length ≤ 2000 ∧ R1.length ≤ c1 ∧ R2.length ≤ c2 ∧ H = [.box [.mp 1, .mp 2, .mp 3, .mp 4, .mp 5, .o 6 0 (R1).length c1, .o 7 0 (R2).length c2], mSP (jlF 0 b.js bl) b.js.length, mSS rl rk, mSS b.sp b.spk, mSI b.lf b.lfk, mSI b.us b.usk, .arr 3 1 c1 (nR (R1)), .arr 30 1 c2 (nR (R2)), .pool (plF jbP b.js bl)]
theorem chkA_all : ∀ (l : List Nt) (p : Option Nt), chkA p l = 0 → ∀ x ∈ l, ntF x = 0
 | [], _, _, x, hx => by cases hx
 | y :: l, p, h, x, hx => by
  rw [zM3] at h
  split at h
  ·rename_i h1; exact absurd h h1
  ·rename_i h1
   split at h
   ·cases h
   ·rcases List.mem_cons.1 hx with rfl | hx
    ·exact Decidable.not_not.1 h1
    ·exact chkA_all l _ h x hx
theorem zk3 {l : List Nt} (h : chkN l = 0) : l.length ≤ 2000 ∧ ∀ x ∈ l, ntF x = 0 := by
 refine ⟨(chkN_nodup h).2, chkA_all l none ?_⟩
 unfold chkN at h
 split at h
 ·cases h
 ·split at h
  ·rename_i h1; exact absurd h h1
  ·rename_i h1; exact Decidable.not_not.1 h1
theorem cntP_ix {l : List Nt} {at_ : Int} (h : chkN l = 0) : ∀ i ∈ cntP at_ l, ∃ k : Nat, i = k ∧ k < l.length := fun i hi => by
 rw [cntP_right h] at hi
 obtain ⟨k, hk, rfl⟩ := List.mem_map.1 hi
 exact ⟨k, rfl, List.mem_range.1 (List.mem_filter.1 hk).1⟩
theorem zK2 {l : List Nt} {at_ : Int} (h : askF l at_ = 0) : chkN l = 0 := by
 unfold askF at h
 split at h
 ·rename_i h1; exact absurd h h1
 ·rename_i h1; exact Decidable.not_not.1 h1
theorem checked_no (v : Value) (l : List Nt) (at_ : Int) (hl : l.length ≤ 1000000) (hs : ∀ x ∈ l, NtS x) (h0 : askF l at_ ≠ 0) : ACalls Tryz.prog 73 [.c (.r v (noRs l)), .c (I at_)] [] fun u H => u = .t [.c (.s (.pointer none)), .c (I (askF l at_))] ∧ H = [] := by
 refine zg (N := 16) Tryz.func73 rfl rfl (by simp) fun E hE => ?_
 refine WA ?_
 refine WR ?_
 refine zh rfl (zc false (fun _ => asked_v v l at_ hl hs) rfl .fn rfl (by decide) (by kernel_rfl) rfl (fun _ => C0 rfl) (by simp)) ?_
 rintro _ _ ⟨_, _, _, ⟨rfl, rfl⟩, hF, hH⟩
 (refine NST hF hH ?_; clear hF hH; rintro rfl rfl)
 refine WE ?_
 generalize askF l at_ = e at h0 ⊢
 refine WA ?_
 refine zb rfl ?_
 refine WA ?_
 exact aret_2 [] _ rfl rfl rfl rfl rfl (by decide) (ZNK rfl) (fun _ => .nil) ⟨rfl, rfl⟩
theorem checked_ok (v : Value) (l : List Nt) (at_ : Int) (hl : l.length ≤ 1000000) (hs : ∀ x ∈ l, NtS x) (h0 : askF l at_ = 0) : ACalls Tryz.prog 73 [.c (.r v (noRs l)), .c (I at_)] [] fun u H => u = .t [.p 0 0 0, .c (I 0)] ∧ BkR l at_ H := by
 refine zg (N := 16) Tryz.func73 rfl rfl (by simp) fun E hE => ?_
 refine WA ?_
 refine WR ?_
 refine zh rfl (zc false (fun _ => asked_v v l at_ hl hs) rfl .fn rfl (by decide) (by kernel_rfl) rfl (fun _ => C0 rfl) (by simp)) ?_
 rintro _ _ ⟨_, _, _, ⟨rfl, rfl⟩, hF, hH⟩
 (refine NST hF hH ?_; clear hF hH; rintro rfl rfl)
 refine WE ?_
 rw [h0]
 refine WA ?_
 refine za rfl ?_
 refine ZZ ?_
 refine WR ?_
 refine zh rfl (zc false (fun _ => booksat_v v l at_ (zk3 (zK2 h0)).1 (zk3 (zK2 h0)).2 (cntP_ix (zK2 h0))) rfl .fn rfl (by decide) (by kernel_rfl) rfl (fun _ => C0 rfl) (by simp)) ?_
 rintro _ _ ⟨_, _, _, ⟨b, R1, R2, bl, rl, rk, c1, c2, hbf, hB, hbl, hrl, hrm, h1l, h2l, hc1, hc2, rfl, rfl⟩, hF, hH⟩
 (refine NST hF hH ?_; clear hF hH; rintro rfl rfl)
 refine WE ?_
 exact zZ (us := [.p 0 0 0, .c (I 0)]) [some 0, some 1, some 2, some 3, some 4, some 5, some 6, some 7, some 8] (fun _ => .t [.p 0 0 0, .c (I 0)]) (fun _ => [.box [.mp 1, .mp 2, .mp 3, .mp 4, .mp 5, .o 6 0 (R1).length c1, .o 7 0 (R2).length c2], mSP (jlF 0 b.js bl) b.js.length, mSS rl rk, mSS b.sp b.spk, mSI b.lf b.lfk, mSI b.us b.usk, .arr 3 1 c1 (nR (R1)), .arr 30 1 c2 (nR (R2)), .pool (plF jbP b.js bl)]) (.tmp rfl (.tmp rfl .nil)) (by decide) (ZNK rfl) (fun _ => .tL (.cons (.p rfl) (.cons (.c rfl) .nil))) ZCH (fun _ => ⟨rfl, b, R1, R2, bl, rl, rk, c1, c2, hbf, hB, hbl, hrl, hrm, h1l, h2l, hc1, hc2, rfl⟩)
end Go.Proofs.YtlhbfcfjepbhpaaGreatDoor
-- NEWM
namespace Go.Proofs.YtlhbfcfjepbhpaaGreatDoor
open Go Go.RowKit
set_option maxRecDepth 100000
end Go.Proofs.YtlhbfcfjepbhpaaGreatDoor
-- NEWM
namespace Go.Proofs.YtlhbfcfjepbhpaaGreatDoor
open Go Go.RowKit
set_option maxRecDepth 100000
end Go.Proofs.YtlhbfcfjepbhpaaGreatDoor
-- NEWM
namespace Go.Proofs.YtlhbfcfjepbhpaaGreatDoor
open Go Go.RowKit Go.Shelf
set_option maxRecDepth 100000
abbrev Pr := List UInt8 × List UInt8
abbrev prR (x : Pr) : List CV := [T x.1, T x.2]
abbrev prRs (l : List Pr) : List (List CV) := l.map prR
end Go.Proofs.YtlhbfcfjepbhpaaGreatDoor
-- NEWM
namespace Go.Proofs.YtlhbfcfjepbhpaaGreatDoor
open Go Go.RowKit
set_option maxRecDepth 100000
theorem seen_perm {n : Nat} {seen : List Nat} (hn : seen.Nodup) (h1 : ∀ k ∈ seen, k < n) (h2 : ∀ k, k < n → k ∈ seen) : seen.Perm (List.range n) :=
 (List.perm_ext_iff_of_nodup hn List.nodup_range).2 fun k => ⟨fun h => List.mem_range.2 (h1 k h), fun h => h2 k (List.mem_range.1 h)⟩
theorem range_fm {α β : Type} (f : α → Option β) : ∀ (l : List α), ((List.range l.length).filterMap fun k => l[k]?.bind f) = l.filterMap f
 | [] => rfl
 | x :: l => by
  rw [List.length_cons, List.range_succ_eq_map, List.filterMap_cons, List.filterMap_map]
  simp only [Function.comp_def, List.getElem?_cons_zero, List.getElem?_cons_succ, Option.bind_some, Nat.succ_eq_add_one]
  rw [range_fm f l, List.filterMap_cons]
def fmJ {β : Type} (f : Jb → Option β) (js : List Jb) (seen : List Nat) : List β := seen.filterMap fun k => js[k]?.bind f
theorem fmJ_some {β : Type} {f : Jb → Option β} {js : List Jb} {seen : List Nat} {k : Nat} {j : Jb} {p : β} (h : js[k]? = some j) (hf : f j = some p) : fmJ f js (seen ++ [0 + k]) = fmJ f js seen ++ [p] := by
 unfold fmJ
 rw [List.filterMap_append, Nat.zero_add]
 simp [h, hf]
theorem fmJ_all {β : Type} {f : Jb → Option β} {js : List Jb} {seen : List Nat} (hn : seen.Nodup) (h1 : ∀ k ∈ seen, k < js.length) (h2 : ∀ k, k < js.length → k ∈ seen) : (fmJ f js seen).Perm (js.filterMap f) := by
 have := (seen_perm hn h1 h2).filterMap fun k => js[k]?.bind f
 rwa [range_fm f js] at this
theorem fmJ_len {β : Type} (f : Jb → Option β) (js : List Jb) (seen : List Nat) : (fmJ f js seen).length ≤ seen.length := List.length_filterMap_le _ _
theorem ntS_len (b : Bk) (x : Nt) : (ntS b x).js.length ≤ b.js.length + 1 := by
 unfold ntS
 repeat' split
 all_goals simp [layJ, stopJ]
 all_goals (split <;> simp)
theorem bkK_js (l : List Nt) (ix : List Int) : ∀ k, (bkK l ix k).1.js.length ≤ k
 | 0 => by simp [bkK, bk0]
 | k + 1 => by
  have h := bkK_js l ix k
  rw [bkK]
  split
  ·split
   ·unfold bkStep
    split
    ·simp only; omega
    ·rename_i x _ _
     have := ntS_len (bkK l ix k).1 x
     simp only
     omega
   ·omega
  ·omega
theorem bksF_js {l : List Nt} {at_ : Int} (hl : l.length ≤ 2000) : (bksF l (cntP at_ l)).1.js.length ≤ 2000 := by
 have h1 := bkK_js l (cntP at_ l) (cntP at_ l).length
 have h2 := za4 at_ l l.length (Nat.le_refl _)
 have h3 : (cntP at_ l).length ≤ 2000 := by unfold cntP; rw [List.length_reverse]; omega
 unfold bksF
 omega
theorem unsG_le {α β : Type} (es : List (Nat × α × β)) (seen : List Nat) : unsG es seen ≤ es.length := by
 unfold unsG
 exact List.length_filter_le _ _
def stPr (j : Jb) : Option Pr := some (j.nm, stW j.st)
end Go.Proofs.YtlhbfcfjepbhpaaGreatDoor
namespace Go.Proofs.YtlhbfcfjepbhpaaGreatDoor
open Go Go.RowKit
section
variable {P : Program} {N : Nat} {E : Env} {F : Fm} {H : List OB} {o : Oper}
end
section
variable {P : Program} {N : Nat} {E : Env} {F : Fm} {H : List OB} {S : Nat → Prop} {ρ : List (Option Nat)} {a : Act} {w : World}
end
end Go.Proofs.YtlhbfcfjepbhpaaGreatDoor
-- NEWM
namespace Go.Proofs.YtlhbfcfjepbhpaaGreatDoor
open Go Go.RowKit Go.Shelf
set_option maxRecDepth 100000
end Go.Proofs.YtlhbfcfjepbhpaaGreatDoor
-- NEWM
namespace Go.Proofs.YtlhbfcfjepbhpaaGreatDoor
open Go Go.RowKit
set_option maxRecDepth 100000
theorem mset_mem {α β : Type} [DecidableEq α] {ck : Nat} {a : α} {b : β} : ∀ {l : List (Nat × α × β)} {e : Nat × α × β}, e ∈ mset ck a b l → e ∈ l ∨ e.2.2 = b
 | [], e, h => by
  simp only [mset, List.mem_singleton] at h
  subst h
  exact .inr rfl
 | x :: l, e, h => by
  simp only [mset] at h
  split at h
  ·rcases List.mem_cons.1 h with rfl | h
   ·exact .inr rfl
   ·exact .inl (List.mem_cons_of_mem _ h)
  ·rcases List.mem_cons.1 h with rfl | h
   ·exact .inl (by simp)
   ·rcases mset_mem h with h | h
    ·exact .inl (List.mem_cons_of_mem _ h)
    ·exact .inr h
theorem mset_len {α β : Type} [DecidableEq α] {ck : Nat} {a : α} {b : β} : ∀ (l : List (Nat × α × β)), (mset ck a b l).length ≤ l.length + 1
 | [] => by simp [mset]
 | x :: l => by
  simp only [mset]
  split
  ·simp
  ·have := mset_len (ck := ck) (a := a) (b := b) l
   simp only [List.length_cons]
   omega
theorem key_len {s : List UInt8} (h : keyB s = true) : s.length ≤ 40 := by
 cases s with
 | nil => simp
 | cons b r =>
  rw [zb3] at h
  simp only [Bool.and_eq_true, decide_eq_true_eq] at h
  exact h.1.1
theorem ntS_sp {b : Bk} {x : Nt} {k : Nat} (hx : ntF x = 0) (h1 : b.sp.length ≤ k) (h2 : ∀ e ∈ b.sp, e.2.2.length ≤ 40) : (ntS b x).sp.length ≤ k + 1 ∧ ∀ e ∈ (ntS b x).sp, e.2.2.length ≤ 40 := by
 have h5 := (ntF_ok hx).2.2.1
 unfold ntS
 by_cases c1 : x.kd = 1
 ·rw [if_pos c1]; exact ⟨by simp only; omega, h2⟩
 rw [if_neg c1]
 by_cases c2 : x.kd = 2
 ·rw [if_pos c2]; exact ⟨by simp only; omega, h2⟩
 rw [if_neg c2]
 by_cases c3 : x.kd = 3
 ·rw [if_pos c3]; exact ⟨by simp only; omega, h2⟩
 rw [if_neg c3]
 by_cases c4 : x.kd = 4
 ·rw [if_pos c4]; exact ⟨by simp only; omega, h2⟩
 rw [if_neg c4]
 by_cases c5 : x.kd = 5
 ·rw [if_pos c5]
  refine ⟨?_, fun e he => ?_⟩
  ·have := mset_len (ck := b.spk) (a := x.pr) (b := x.sp) b.sp
   simp only
   omega
  ·rcases mset_mem he with he | he
   ·exact h2 e he
   ·rw [he]; exact key_len (h5 c5).1
 rw [if_neg c5]
 by_cases c6 : x.kd = 6
 ·rw [if_pos c6]; exact ⟨by simp only; omega, h2⟩
 rw [if_neg c6]
 exact ⟨by omega, h2⟩
theorem bkK_sp {l : List Nt} (hl : ∀ x ∈ l, ntF x = 0) (ix : List Int) : ∀ k, (bkK l ix k).1.sp.length ≤ k ∧ ∀ e ∈ (bkK l ix k).1.sp, e.2.2.length ≤ 40
 | 0 => by simp [bkK, bk0]
 | k + 1 => by
  obtain ⟨h1, h2⟩ := bkK_sp hl ix k
  rw [bkK]
  split
  ·split
   ·rename_i x hx
    unfold bkStep
    split
    ·exact ⟨by simp only; omega, h2⟩
    ·exact ntS_sp (hl x (List.mem_of_getElem? hx)) h1 h2
   ·exact ⟨by omega, h2⟩
  ·exact ⟨by omega, h2⟩
theorem bksF_sp {l : List Nt} {at_ : Int} (hl : l.length ≤ 2000) (hs : ∀ x ∈ l, ntF x = 0) : (bksF l (cntP at_ l)).1.sp.length ≤ 2000 ∧ ∀ e ∈ (bksF l (cntP at_ l)).1.sp, e.2.2.length ≤ 40 := by
 obtain ⟨h1, h2⟩ := bkK_sp hs (cntP at_ l) (cntP at_ l).length
 have h3 := za4 at_ l l.length (Nat.le_refl _)
 have h4 : (cntP at_ l).length ≤ 2000 := by unfold cntP; rw [List.length_reverse]; omega
 exact ⟨by unfold bksF; omega, h2⟩
end Go.Proofs.YtlhbfcfjepbhpaaGreatDoor
