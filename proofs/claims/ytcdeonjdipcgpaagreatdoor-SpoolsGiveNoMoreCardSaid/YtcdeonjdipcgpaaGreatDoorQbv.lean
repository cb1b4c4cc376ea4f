/- Pairs sorted by names, by value. -/
import Derived.Test.YtcdeonjdipcgpaaGreatDoorQbu
import Derived.Test.YtcdeonjdipcgpaaGreatDoorQbs
import Derived.Test.YtcdeonjdipcgpaaGreatDoorQba
import Derived.Test.YtcdeonjdipcgpaaGreatDoorQbf
import Derived.Test.YtcdeonjdipcgpaaGreatDoorQbg
import Derived.Test.YtcdeonjdipcgpaaGreatDoorQbc
set_option linter.unusedSimpArgs false
set_option linter.unusedVariables false
namespace Go.Proofs.YtcdeonjdipcgpaaGreatDoor
open Go Go.RowKit
theorem ntF_ok {x : Nt} (h : ntF x = 0) : (x.kd = 1 → keyB x.jb = true ∧ 1 ≤ x.n ∧ x.n ≤ 1000) ∧ (x.kd = 2 → 1 ≤ x.n ∧ x.n ≤ 1000) ∧ (x.kd = 5 → keyB x.sp = true ∧ 1 ≤ x.n ∧ x.n ≤ 100000000) ∧ (x.kd = 6 → 1 ≤ x.n ∧ x.n ≤ 100000000) := by
 unfold ntF at h
 split at h
 ·cases h
 split at h
 ·cases h
 split at h
 ·cases h
 split at h
 ·cases h
 rename_i h4
 split at h
 ·cases h
 rename_i h5
 clear h
 refine ⟨fun hk => ?_, fun hk => ?_, fun hk => ?_, fun hk => ?_⟩
 all_goals
  rw [hk] at h4 h5
  simp [uP, uJ, uS, uU, uM, outB] at h4 h5
 ·exact ⟨h4.2, by omega, by omega⟩
 ·omega
 ·exact ⟨h4.2, by omega, by omega⟩
 ·omega
theorem key_ne {s : List UInt8} (h : keyB s = true) : s ≠ [] := fun e => by subst e; simp [keyB] at h
structure BkOk (b : Bk) (k : Nat) : Prop where
 js : JsOk b.js
 sp : MapOk b.sp b.spk
 lf : MapOk b.lf b.lfk
 us : MapOk b.us b.usk
 l : ∀ s, 0 ≤ (mget b.lf s).getD 0 ∧ (mget b.lf s).getD 0 ≤ 100000000
 u : ∀ s, 0 ≤ (mget b.us s).getD 0 ∧ (mget b.us s).getD 0 ≤ 100000000 * (k : Int)
theorem BkOk.spb {b : Bk} {k : Nat} (h : BkOk b k) (hk : k ≤ 2000) : SpB b.lf b.us := ⟨h.l, fun s => ⟨(h.u s).1, by have := (h.u s).2; omega⟩⟩
theorem JsOk.nil : JsOk [] := ⟨fun i k a b h => by simp at h, fun i k a b h => by simp at h, fun j h => (by cases h), fun j h => (by cases h), fun j h => (by cases h)⟩
theorem BkOk.zero : BkOk bk0 0 := ⟨JsOk.nil, .nil, .nil, .nil, fun s => by simp [bk0, mget], fun s => by simp [bk0, mget]⟩
theorem BkOk.more {b : Bk} {k : Nat} (h : BkOk b k) : BkOk b (k + 1) := ⟨h.js, h.sp, h.lf, h.us, h.l, fun s => ⟨(h.u s).1, by have := (h.u s).2; omega⟩⟩
theorem JsOk.lay {js : List Jb} (h : JsOk js) {p : List UInt8} {k : Nat} {j : Jb} {t : Int} (hr : runI js p = some k) (hk : js[k]? = some j) (hl : (j.ly.length : Int) + 1 ≤ j.all) : JsOk (layJ js p t) := by
 unfold layJ
 rw [hr]
 have hm := List.mem_of_getElem? hk
 exact h.mod hk (fun _ => rfl) (fun _ => rfl) (fun _ h => h) (h.st j hm) (by have := (h.all j hm).2; simp; omega)
theorem JsOk.stop {js : List Jb} (h : JsOk js) {p : List UInt8} {k : Nat} {j : Jb} {s t : Int} (hr : runI js p = some k) (hk : js[k]? = some j) (hs : s = 1 ∨ s = 2) : JsOk (stopJ js p s t) := by
 unfold stopJ
 rw [hr]
 have hm := List.mem_of_getElem? hk
 exact h.mod hk (fun _ => rfl) (fun _ => rfl) (fun _ h => by simp at h; omega) (.inr hs) (h.all j hm)
theorem runJ_at {js : List Jb} {p : List UInt8} {k : Nat} {j : Jb} (hr : runI js p = some k) (hk : js[k]? = some j) : runJ js p = some j := by unfold runJ; rw [hr]; exact hk
theorem BkOk.next {b : Bk} {k : Nat} {x : Nt} (h : BkOk b k) (hx : ntF x = 0) (hr : rfE b x = 0) : BkOk (ntS b x) (k + 1) := by
 obtain ⟨f1, f2, f5, f6⟩ := ntF_ok hx
 unfold rfE at hr
 unfold ntS
 by_cases h1 : x.kd = 1
 ·rw [if_pos h1] at hr ⊢
  obtain ⟨g1, g2, g3⟩ := f1 h1
  have e1 : nmI b.js x.jb = none := by
   cases hq : nmI b.js x.jb with
   | none => rfl
   | some q => simp [hq] at hr
  have e2 : runI b.js x.pr = none := by
   cases hq : runI b.js x.pr with
   | none => rfl
   | some q => simp [hq, e1] at hr
  exact ⟨h.js.begin e1 e2 rfl (key_ne g1) rfl ⟨show (0 : Int) ≤ x.n by omega, g3⟩, h.sp, h.lf, h.us, h.l, h.more.u⟩
 rw [if_neg h1] at hr ⊢
 by_cases h2 : x.kd = 2
 ·rw [if_pos h2] at hr ⊢
  cases hq : runI b.js x.pr with
  | none => simp [runJ, hq] at hr
  | some q =>
   obtain ⟨j, hj, _, _⟩ := zU1 hq
   rw [runJ_at hq hj] at hr
   simp only at hr
   split at hr
   ·cases hr
   ·rename_i hn
    split at hr
    ·cases hr
    ·rename_i hn2
     exact ⟨h.js.lay hq hj (by omega), h.sp, h.lf, h.us, h.l, h.more.u⟩
 rw [if_neg h2] at hr ⊢
 by_cases h3 : x.kd = 3
 ·rw [if_pos h3] at hr ⊢
  cases hq : runI b.js x.pr with
  | none => simp [runJ, hq] at hr
  | some q =>
   obtain ⟨j, hj, _, _⟩ := zU1 hq
   exact ⟨h.js.stop hq hj (.inl rfl), h.sp, h.lf, h.us, h.l, h.more.u⟩
 rw [if_neg h3] at hr ⊢
 by_cases h4 : x.kd = 4
 ·rw [if_pos h4] at hr ⊢
  cases hq : runI b.js x.pr with
  | none => simp [hq] at hr
  | some q =>
   obtain ⟨j, hj, _, _⟩ := zU1 hq
   exact ⟨h.js.stop hq hj (.inr rfl), h.sp, h.lf, h.us, h.l, h.more.u⟩
 rw [if_neg h4] at hr ⊢
 by_cases h5 : x.kd = 5
 ·rw [if_pos h5] at hr ⊢
  obtain ⟨_, g2, g3⟩ := f5 h5
  refine ⟨h.js, h.sp.set _ _, h.lf.set _ _, h.us, fun s => ?_, h.more.u⟩
  simp only
  rw [zX]
  split
  ·simp only [Option.getD_some]; omega
  ·exact h.l s
 rw [if_neg h5] at hr ⊢
 by_cases h6 : x.kd = 6
 ·rw [if_pos h6] at hr ⊢
  obtain ⟨g2, g3⟩ := f6 h6
  cases hq : mget b.sp x.pr with
  | none => simp [hq] at hr
  | some kk =>
   simp only [hq] at hr
   have hlf := h.l kk
   have hus := h.u kk
   have hn : ¬ (mget b.lf kk).getD 0 < x.n := fun h => by simp [h] at hr
   refine ⟨h.js, h.sp, h.lf.set _ _, h.us.set _ _, fun s => ?_, fun s => ?_⟩
   ·simp only [Option.getD_some]
    rw [zX]
    split
    ·simp only [Option.getD_some]; omega
    ·exact h.l s
   ·simp only [Option.getD_some]
    rw [zX]
    split
    ·simp only [Option.getD_some]; omega
    ·exact h.more.u s
 rw [if_neg h6]
 exact h.more
end Go.Proofs.YtcdeonjdipcgpaaGreatDoor
-- NEWM
namespace Go.Proofs.YtcdeonjdipcgpaaGreatDoor
open Go Go.RowKit
set_option maxRecDepth 100000
section
variable {P : Program} {N : Nat} {E : Env} {F : Fm} {H : List OB} {K : Fm → List OB → Prop} {Q : Exit → Fm → List OB → Prop}
end
theorem jlF_mem : ∀ {js : List Jb} {bl : List Nat} {i : Nat} {e : Nat × List UInt8 × Value}, e ∈ jlF i js bl → ∃ k j b, js[k]? = some j ∧ bl[k]? = some b ∧ e = (i + k, j.nm, ptrV b)
 | [], _, _, _, h => by simp [jlF] at h
 | _ :: _, [], _, _, h => by simp [jlF] at h
 | x :: js, d :: bl, i, e, h => by
  simp only [jlF, List.mem_cons] at h
  rcases h with rfl | h
  ·exact ⟨0, x, d, rfl, rfl, rfl⟩
  ·obtain ⟨k, j, b, h1, h2, h3⟩ := jlF_mem h
   exact ⟨k + 1, j, b, by simpa using h1, by simpa using h2, by rw [h3, show i + 1 + k = i + (k + 1) by omega]⟩
theorem jlF_in : ∀ {js : List Jb} {bl : List Nat} {i k : Nat} {j : Jb} {b : Nat}, js[k]? = some j → bl[k]? = some b → (i + k, j.nm, ptrV b) ∈ jlF i js bl
 | [], _, _, _, _, _, h, _ => by simp at h
 | _ :: _, [], _, _, _, _, _, h => by simp at h
 | x :: js, d :: bl, i, 0, j, b, h1, h2 => by
  simp only [List.getElem?_cons_zero, Option.some.injEq] at h1 h2
  subst h1; subst h2
  simp [jlF]
 | x :: js, d :: bl, i, k + 1, j, b, h1, h2 => by
  simp only [List.getElem?_cons_succ] at h1 h2
  have := jlF_in (i := i + 1) h1 h2
  rw [show i + 1 + k = i + (k + 1) by omega] at this
  exact List.mem_cons_of_mem _ this
theorem jlF_births : ∀ {js : List Jb} {bl : List Nat} {i : Nat}, bl.length = js.length → (jlF i js bl).map (·.1) = List.range' i js.length
 | [], [], _, _ => rfl
 | x :: js, d :: bl, i, h => by
  simp only [jlF, List.map_cons, List.length_cons, List.range'_succ]
  rw [jlF_births (by simpa using h)]
 | [], _ :: _, _, h => by simp at h
 | _ :: _, [], _, h => by simp at h
theorem jlF_names : ∀ {js : List Jb} {bl : List Nat} {i : Nat}, bl.length = js.length → (jlF i js bl).map (·.2.1) = js.map Jb.nm
 | [], [], _, _ => rfl
 | x :: js, d :: bl, i, h => by
  simp only [jlF, List.map_cons]
  rw [jlF_names (by simpa using h)]
 | [], _ :: _, _, h => by simp at h
 | _ :: _, [], _, h => by simp at h
theorem JsOk.names {js : List Jb} (h : JsOk js) : (js.map Jb.nm).Nodup := by
 rw [List.Nodup, List.pairwise_iff_getElem]
 intro i k hi hk hik
 rw [List.length_map] at hi hk
 rw [List.getElem_map, List.getElem_map]
 exact fun e => by have := h.nm i k _ _ (List.getElem?_eq_getElem hi) (List.getElem?_eq_getElem hk) e; omega
theorem jlF_ok {js : List Jb} {bl : List Nat} (h : JsOk js) (hb : bl.length = js.length) : MapOk (jlF 0 js bl) js.length :=
 ⟨fun e he => by
  obtain ⟨k, j, b, h1, _, rfl⟩ := jlF_mem he
  have := (List.getElem?_eq_some_iff.1 h1).1
  simpa using this, by rw [jlF_births hb]; exact List.nodup_range', by rw [jlF_names hb]; exact h.names⟩
end Go.Proofs.YtcdeonjdipcgpaaGreatDoor
-- NEWM
namespace Go.Proofs.YtcdeonjdipcgpaaGreatDoor
open Go Go.RowKit
set_option maxRecDepth 100000
end Go.Proofs.YtcdeonjdipcgpaaGreatDoor
-- NEWM
namespace Go.Proofs.YtcdeonjdipcgpaaGreatDoor
open Go Go.RowKit
set_option maxRecDepth 100000
theorem bkK_len (l : List Nt) (ix : List Int) : ∀ k, (bkK l ix k).2.1.length ≤ k ∧ (bkK l ix k).2.2.length ≤ k
 | 0 => by simp [bkK]
 | k + 1 => by
  have h := bkK_len l ix k
  rw [bkK]
  split
  ·split
   ·unfold bkStep
    split <;> simp <;> omega
   ·omega
  ·omega
set_option maxHeartbeats 4000000 in
theorem booksat_v (v : Value) (l : List Nt) (at_ : Int) (hl : l.length ≤ 2000) (hs : ∀ x ∈ l, ntF x = 0) (hix : ∀ i ∈ cntP at_ l, ∃ k : Nat, i = k ∧ k < l.length) : ACalls Tryz.prog 80 [.c (.r v (noRs l)), .c (I at_)] [] fun u H => ∃ (b : Bk) (R1 R2 : List Int) (bl : List Nat) (rl : List (Nat × List UInt8 × List UInt8)) (rk c1 c2 : Nat), bksF l (cntP at_ l) = (b, R1, R2) ∧ BkOk b 2000 ∧ bl.length = b.js.length ∧ RunOk b.js rl ∧ MapOk rl rk ∧ R1.length ≤ 2000 ∧ R2.length ≤ 2000 ∧ R1.length ≤ c1 ∧ R2.length ≤ c2 ∧ u = .p 0 0 0 ∧ H = [.box [.mp 1, .mp 2, .mp 3, .mp 4, .mp 5, .o 6 0 (R1).length c1, .o 7 0 (R2).length c2], mSP (jlF 0 b.js bl) b.js.length, mSS rl rk, mSS b.sp b.spk, mSI b.lf b.lfk, mSI b.us b.usk, .arr 3 1 c1 (nR (R1)), .arr 32 1 c2 (nR (R2)), .pool (plF jbP b.js bl)] := by
 have hcl : (cntP at_ l).length ≤ 2000 := by
  have := zQ3 at_ l l.length (Nat.le_refl _)
  unfold cntP
  rw [List.length_reverse]
  omega
 refine zg (N := 60) Tryz.func80 rfl rfl (by simp) fun E hE => ?_
 refine WA ?_
 refine ZR ?_
 refine zh rfl (zE1 rfl rfl (by decide)) ?_
 rintro _ _ ⟨rfl, rfl⟩
 refine zh rfl (zE1 rfl rfl (by decide)) ?_
 rintro _ _ ⟨rfl, rfl⟩
 refine zh rfl (zE1 rfl rfl (by decide)) ?_
 rintro _ _ ⟨rfl, rfl⟩
 refine zh rfl (zE1 rfl rfl (by decide)) ?_
 rintro _ _ ⟨rfl, rfl⟩
 refine zh rfl (zE1 rfl rfl (by decide)) ?_
 rintro _ _ ⟨rfl, rfl⟩
 refine WE ?_
 refine WR ?_
 refine zh rfl (zc false (fun _ => counting_v v l at_ (by omega)) rfl .fn rfl (by decide) (by kernel_rfl) rfl (fun _ => C0 rfl) (by simp)) ?_
 rintro _ _ ⟨_, _, _, ⟨c, hc, rfl, rfl⟩, hF, hH⟩
 (refine NST hF hH ?_; clear hF hH; rintro rfl rfl)
 refine WE ?_
 refine aw_wk (wk_pool0 (K := fun F' H' => F' = _ ∧ H' = _) ⟨rfl, rfl⟩) ?_
 rintro _ _ ⟨rfl, rfl⟩
 refine zP (fun m F H => ∃ (k : Nat) (b : Bk) (R1 R2 : List Int) (bl : List Nat) (rl : List (Nat × List UInt8 × List UInt8)) (rk c1 c2 : Nat), m + k = (cntP at_ l).length ∧ bkK l (cntP at_ l) k = (b, R1, R2) ∧ BkOk b k ∧ bl.length = b.js.length ∧ RunOk b.js rl ∧ MapOk rl rk ∧ R1.length ≤ c1 ∧ R2.length ≤ c2 ∧ F = [(0, .c (.r v (noRs l))), (5, .p 0 0 0), (18, .o 9 0 (cntP at_ l).length c), (19, .c (I (cntP at_ l).length)), (20, .c (I k))] ∧ H = [.box [.mp 1, .mp 2, .mp 3, .mp 4, .mp 5, .o 6 0 (R1).length c1, .o 7 0 (R2).length c2], mSP (jlF 0 b.js bl) b.js.length, mSS rl rk, mSS b.sp b.spk, mSI b.lf b.lfk, mSI b.us b.usk, .arr 3 1 c1 (nR (R1)), .arr 32 1 c2 (nR (R2)), .pool (plF jbP b.js bl), .arr 3 1 c (nR (cntP at_ l))]) ?_ ?_
 ·refine zo [some 5, some 0, some 1, some 2, some 3, some 4, none, none, some 7, some 6] (fun _ => [(0, .c (.r v (noRs l))), (5, .p 0 0 0), (18, .o 9 0 (cntP at_ l).length c), (19, .c (I (cntP at_ l).length)), (20, .c (I (0 : Nat)))]) (fun _ => [.box [.mp 1, .mp 2, .mp 3, .mp 4, .mp 5, .o 6 0 0 0, .o 7 0 0 0], mSP [] 0, mSS [] 0, mSS [] 0, mSI [] 0, mSI [] 0, .arr 3 1 0 [], .arr 32 1 0 [], .pool [], .arr 3 1 c (nR (cntP at_ l))]) (by decide) (ZNL hE) ZCF ZCH (fun _ => ?_)
  exact ⟨_, 0, bk0, [], [], [], [], 0, 0, 0, Nat.add_zero _, rfl, .zero, rfl, fun s => rfl, .nil, Nat.le_refl _, Nat.le_refl _, rfl, rfl⟩
 rintro m F H ⟨k, b, R1, R2, bl, rl, rk, c1, c2, hk, hbk, hB, hbl, hrl, hrm, hc1, hc2, rfl, rfl⟩
 have hRl := bkK_len l (cntP at_ l) k
 rw [hbk] at hRl
 simp only at hRl
 refine WA ?_
 refine zz rfl (fun hlt => ?_) (fun hge => ?_)
 ·obtain ⟨i0, hi0⟩ : ∃ z, (cntP at_ l)[k]? = some z := ⟨_, List.getElem?_eq_getElem (by omega)⟩
  obtain ⟨i, rfl, hil⟩ := hix i0 (List.mem_of_getElem? hi0)
  have hrow : (nR (cntP at_ l))[k]? = some [I i] := by rw [List.getElem?_map, hi0]; rfl
  obtain ⟨x, hx⟩ : ∃ x, l[i]? = some x := ⟨_, List.getElem?_eq_getElem hil⟩
  have hrow0 := zo2 hx
  have hxn := hs x (List.mem_of_getElem? hx)
  have hst := bkK_next hi0 (show l[((i : Nat) : Int).toNat]? = some x from hx)
  rw [hbk] at hst
  have hn6 : x.kd = 6 → 0 ≤ x.n ∧ x.n ≤ 100000000 := fun h => by have := (ntF_ok hxn).2.2.2 h; omega
  obtain ⟨st, no, xat, kn, pr, jb, sn, n, of_, ot⟩ := x
  have hrow2 : (noRs l)[i]? = some [T st, I no, I xat, I kn, T pr, T jb, T sn, I n, T of_, I ot] := hrow0
  refine WA ?_
  refine WR ?_
  refine zh rfl (zo1 [0, 1, 2, 3, 4, 5, 6, 7, 8] (fun _ => [.box [.mp 1, .mp 2, .mp 3, .mp 4, .mp 5, .o 6 0 (R1).length c1, .o 7 0 (R2).length c2], mSP (jlF 0 b.js bl) b.js.length, mSS rl rk, mSS b.sp b.spk, mSI b.lf b.lfk, mSI b.us b.usk, .arr 3 1 c1 (nR (R1)), .arr 32 1 c2 (nR (R2)), .pool (plF jbP b.js bl)]) false (fun _ => refusal_v b.js bl rl rk b.sp b.spk b.lf b.lfk b.us b.usk c1 c2 R1 R2 ⟨st, no, xat, kn, pr, jb, sn, n, of_, ot⟩ hB.js hbl hrl hB.sp) rfl .fn rfl (by decide) (by kernel_rfl) rfl (fun _ => .cons (.p rfl) (.cons (.aL (C0 rfl)) .nil)) (by decide) ZCH (by simp)) ?_
  rintro F1 H1 ⟨_, _, _, _, ⟨rfl, rfl⟩, hF, hH⟩
  rw [zT] at hF; (refine NSU hF hH ?_; clear hF hH; rintro rfl rfl)
  refine WE ?_
  generalize hrf : rfE b ⟨st, no, xat, kn, pr, jb, sn, n, of_, ot⟩ = e at hst ⊢
  refine WA ?_
  refine zz rfl (fun h1 => ?_) (fun h1 => ?_)
  ·have e1 : (nR R1).length = R1.length := by simp
   have e2 : (nR R2).length = R2.length := by simp
   have hst2 : bkK l (cntP at_ l) (k + 1) = (b, R1 ++ [(i : Int)], R2 ++ [e]) := by rw [hst, bkStep]; simp only; rw [hrf, if_pos h1]
   refine ZZ ?_
   refine aw_regionM [[(0, none), (1, none), (2, none), (3, none), (4, none), (5, none), (6, none), (9, none), (10, none), (11, none), (12, none), (13, none), (7, some [0, 1, 2, 3, 4, 5, 9, 10, 11, 12, 13]), (8, some [0, 1, 9, 10, 11, 12, 13]), (14, some [0, 1, 2, 3, 4, 5, 6, 9, 10, 11, 12]), (15, some [0, 1]), (16, none), (17, none), (18, some [1]), (19, none), (20, none), (21, some [])], [(0, none), (1, none), (2, none), (3, none), (4, none), (5, none), (6, none), (9, none), (10, none), (11, none), (12, none), (13, none), (7, some [0, 1, 2, 3, 4, 5, 9, 10, 11, 12, 13]), (14, some [0, 1, 2, 3, 4, 5, 6, 9, 10, 11, 12]), (8, some [0, 1, 9, 10, 11, 12, 13]), (15, some [0, 1]), (16, none), (17, none), (18, some [1]), (19, none), (20, none), (21, some [])], [(0, none), (1, none), (2, none), (3, none), (4, none), (5, none), (6, none), (9, none), (10, none), (11, none), (12, none), (13, none), (14, some [0, 1, 2, 3, 4, 5, 6, 9, 10, 11, 12]), (7, some [0, 1, 2, 3, 4, 5, 9, 10, 11, 12, 13]), (8, some [0, 1, 9, 10, 11, 12, 13]), (15, some [0, 1]), (16, none), (17, none), (18, some [1]), (19, none), (20, none), (21, some [])]] zw (by kernel_rfl) ?_
   focus
    refine WM ?_
    refine zB2 (by rfl) (by rfl) (by rfl) ?_ ?_
    rotate_left
    refine WM ?_
    refine zq1 (i := 8) (by rfl) (by rfl) rfl rfl (Zapp (news := [[I i]]) (j := 1) (hE := KA (t := 22) rfl) (hsrc := .own rfl rfl rfl) (hj := rfl) (hle := by omega)) ?_
    rintro F1 H1 ⟨_, cc1, hcc1, hF, hH⟩
    (refine NSU hF hH ?_; clear hF hH; rintro rfl rfl)
    refine ⟨AGX, ?_⟩
    refine zq1 (i := 15) (by rfl) (by rfl) rfl rfl (Zapp (news := [[I e]]) (j := 1) (hE := KA (t := 31) rfl) (hsrc := .own rfl rfl rfl) (hj := rfl) (hle := by omega)) ?_
    rintro F1 H1 ⟨_, cc2, hcc2, hF, hH⟩
    (refine NSU hF hH ?_; clear hF hH; rintro rfl rfl)
    refine ⟨AGX, ?_⟩
    refine WN ?_
    rotate_right
    refine WM ?_
    refine zB2 (by rfl) (by rfl) (by rfl) ?_ ?_
    rotate_left
    refine WM ?_
    refine zq1 (i := 8) (by rfl) (by rfl) rfl rfl (Zapp (news := [[I i]]) (j := 1) (hE := KA (t := 22) rfl) (hsrc := .own rfl rfl rfl) (hj := rfl) (hle := by omega)) ?_
    rintro F1 H1 ⟨_, cc1, hcc1, hF, hH⟩
    (refine NSU hF hH ?_; clear hF hH; rintro rfl rfl)
    refine ⟨AGX, ?_⟩
    refine zq1 (i := 15) (by rfl) (by rfl) rfl rfl (Zapp (news := [[I e]]) (j := 1) (hE := KA (t := 31) rfl) (hsrc := .own rfl rfl rfl) (hj := rfl) (hle := by omega)) ?_
    rintro F1 H1 ⟨_, cc2, hcc2, hF, hH⟩
    (refine NSU hF hH ?_; clear hF hH; rintro rfl rfl)
    refine ⟨AGX, ?_⟩
    refine WN ?_
    rotate_right
    refine zq1 (i := 8) (by rfl) (by rfl) rfl rfl (Zapp (news := [[I i]]) (j := 1) (hE := KA (t := 22) rfl) (hsrc := .own rfl rfl rfl) (hj := rfl) (hle := by omega)) ?_
    rintro F1 H1 ⟨_, cc1, hcc1, hF, hH⟩
    (refine NSU hF hH ?_; clear hF hH; rintro rfl rfl)
    refine ⟨AGX, ?_⟩
    refine WM ?_
    refine zq1 (i := 15) (by rfl) (by rfl) rfl rfl (Zapp (news := [[I e]]) (j := 1) (hE := KA (t := 31) rfl) (hsrc := .own rfl rfl rfl) (hj := rfl) (hle := by omega)) ?_
    rintro F1 H1 ⟨_, cc2, hcc2, hF, hH⟩
    (refine NSU hF hH ?_; clear hF hH; rintro rfl rfl)
    refine ⟨AGX, ?_⟩
    refine WN ?_
   all_goals (
    refine WA ?_
    refine zo [some 0, some 1, some 2, some 3, some 4, some 5, some 6, some 7, some 8, some 9] (fun _ => [(0, .c (.r v (noRs l))), (5, .p 0 0 0), (18, .o 9 0 (cntP at_ l).length c), (19, .c (I (cntP at_ l).length)), (20, .c (I (k + 1 : Nat)))]) (fun _ => [.box [.mp 1, .mp 2, .mp 3, .mp 4, .mp 5, .o 6 0 (R1 ++ [(i : Int)]).length cc1, .o 7 0 (R2 ++ [e]).length cc2], mSP (jlF 0 b.js bl) b.js.length, mSS rl rk, mSS b.sp b.spk, mSI b.lf b.lfk, mSI b.us b.usk, .arr 3 1 cc1 (nR (R1 ++ [(i : Int)])), .arr 32 1 cc2 (nR (R2 ++ [e])), .pool (plF jbP b.js bl), .arr 3 1 c (nR (cntP at_ l))]) (by decide) (ZNL hE) ZCF (by simp only [nR, List.map_append, List.length_append, List.length_singleton]; exact ZCH) (fun _ => ?_)
    exact ⟨m - 1, by omega, k + 1, b, _, _, bl, rl, rk, cc1, cc2, by omega, hst2, hB.more, hbl, hrl, hrm, by simp at hcc1 ⊢; omega, by simp at hcc2 ⊢; omega, rfl, rfl⟩)
  ·have h0 : e = 0 := Decidable.not_not.1 h1
   rw [h0] at hrf
   have hst2 : bkK l (cntP at_ l) (k + 1) = (ntS b ⟨st, no, xat, kn, pr, jb, sn, n, of_, ot⟩, R1, R2) := by rw [hst, bkStep]; simp only; rw [hrf, if_neg (by simp)]
   have hnx := hB.next hxn hrf
   refine ZZ ?_
   refine WR ?_
   refine zh rfl (zo1 [0, 1, 2, 3, 4, 5, 6, 7, 8] (fun _ => [.box [.mp 1, .mp 2, .mp 3, .mp 4, .mp 5, .o 6 0 (R1).length c1, .o 7 0 (R2).length c2], mSP (jlF 0 b.js bl) b.js.length, mSS rl rk, mSS b.sp b.spk, mSI b.lf b.lfk, mSI b.us b.usk, .arr 3 1 c1 (nR (R1)), .arr 32 1 c2 (nR (R2)), .pool (plF jbP b.js bl)]) false (fun _ => note_v b.js bl rl rk b.sp b.spk b.lf b.lfk b.us b.usk c1 c2 R1 R2 ⟨st, no, xat, kn, pr, jb, sn, n, of_, ot⟩ hB.js hbl hrl hrm hrf hn6 (hB.spb (by omega))) rfl .fn rfl (by decide) (by kernel_rfl) rfl (fun _ => .cons (.p rfl) (.cons (.aL (C0 rfl)) .nil)) (by decide) ZCH (by simp)) ?_
   rintro F1 H1 ⟨_, _, _, _, ⟨rfl, b2, bl2, rl2, rk2, hb2, hbl2, hrl2, hrm2, rfl⟩, hF, hH⟩
   rw [zT] at hF; (refine NSU hF hH ?_; clear hF hH; rintro rfl rfl)
   refine WE ?_
   rw [← hb2] at hst2 hnx
   refine WA ?_
   refine zo [some 0, some 1, some 2, some 3, some 4, some 5, some 6, some 7, some 8, some 9] (fun _ => [(0, .c (.r v (noRs l))), (5, .p 0 0 0), (18, .o 9 0 (cntP at_ l).length c), (19, .c (I (cntP at_ l).length)), (20, .c (I (k + 1 : Nat)))]) (fun _ => [.box [.mp 1, .mp 2, .mp 3, .mp 4, .mp 5, .o 6 0 (R1).length c1, .o 7 0 (R2).length c2], mSP (jlF 0 b2.js bl2) b2.js.length, mSS rl2 rk2, mSS b2.sp b2.spk, mSI b2.lf b2.lfk, mSI b2.us b2.usk, .arr 3 1 c1 (nR (R1)), .arr 32 1 c2 (nR (R2)), .pool (plF jbP b2.js bl2), .arr 3 1 c (nR (cntP at_ l))]) (by decide) (ZNL hE) ZCF ZCH (fun _ => ?_)
   exact ⟨m - 1, by omega, k + 1, b2, R1, R2, bl2, rl2, rk2, c1, c2, by omega, hst2, hnx, hbl2, hrl2, hrm2, hc1, hc2, rfl, rfl⟩
 obtain rfl : k = (cntP at_ l).length := by omega
 refine ZZ ?_
 refine WA ?_
 have hBB : BkOk b 2000 := ⟨hB.js, hB.sp, hB.lf, hB.us, hB.l, fun s => ⟨(hB.u s).1, by have := (hB.u s).2; omega⟩⟩
 exact aret_p [some 0, some 1, some 2, some 3, some 4, some 5, some 6, some 7, some 8] (fun _ => [.box [.mp 1, .mp 2, .mp 3, .mp 4, .mp 5, .o 6 0 (R1).length c1, .o 7 0 (R2).length c2], mSP (jlF 0 b.js bl) b.js.length, mSS rl rk, mSS b.sp b.spk, mSI b.lf b.lfk, mSI b.us b.usk, .arr 3 1 c1 (nR (R1)), .arr 32 1 c2 (nR (R2)), .pool (plF jbP b.js bl)]) rfl rfl rfl (by decide) (ZNK rfl) ZCH (fun _ => ⟨b, R1, R2, bl, rl, rk, c1, c2, hbk, hBB, hbl, hrl, hrm, by omega, by omega, hc1, hc2, rfl, rfl⟩)
end Go.Proofs.YtcdeonjdipcgpaaGreatDoor
-- NEWM
namespace Go.Proofs.YtcdeonjdipcgpaaGreatDoor
open Go Go.RowKit
set_option maxRecDepth 100000
def BkR (l : List Nt) (at_ : Int) (H : List OB) : Prop := ∃ (b : Bk) (R1 R2 : List Int) (bl : List Nat) (rl : List (Nat × List UInt8 × List UInt8)) (rk c1 c2 : Nat), bksF l (cntP at_ l) = (b, R1, R2) ∧ BkOk b 2000 ∧ bl.length = b.js.length ∧ RunOk b.js rl ∧ MapOk rl rk ∧ R1.length ≤ 2000 ∧ R2.length ≤ 2000 ∧ R1.length ≤ c1 ∧ R2.length ≤ c2 ∧ H = [.box [.mp 1, .mp 2, .mp 3, .mp 4, .mp 5, .o 6 0 (R1).length c1, .o 7 0 (R2).length c2], mSP (jlF 0 b.js bl) b.js.length, mSS rl rk, mSS b.sp b.spk, mSI b.lf b.lfk, mSI b.us b.usk, .arr 3 1 c1 (nR (R1)), .arr 32 1 c2 (nR (R2)), .pool (plF jbP b.js bl)]
theorem chkA_all : ∀ (l : List Nt) (p : Option Nt), chkA p l = 0 → ∀ x ∈ l, ntF x = 0
 | [], _, _, x, hx => by cases hx
 | y :: l, p, h, x, hx => by
  rw [zn4] at h
  split at h
  ·rename_i h1; exact absurd h h1
  ·rename_i h1
   split at h
   ·cases h
   ·rcases List.mem_cons.1 hx with rfl | hx
    ·exact Decidable.not_not.1 h1
    ·exact chkA_all l _ h x hx
theorem zp1 {l : List Nt} (h : chkN l = 0) : l.length ≤ 2000 ∧ ∀ x ∈ l, ntF x = 0 := by
 refine ⟨(chkN_nodup h).2, chkA_all l none ?_⟩
 unfold chkN at h
 split at h
 ·cases h
 ·split at h
  ·rename_i h1; exact absurd h h1
  ·rename_i h1; exact Decidable.not_not.1 h1
theorem cntP_ix {l : List Nt} {at_ : Int} (h : chkN l = 0) : ∀ i ∈ cntP at_ l, ∃ k : Nat, i = k ∧ k < l.length := fun i hi => by
 rw [cntP_right h] at hi
 obtain ⟨k, hk, rfl⟩ := List.mem_map.1 hi
 exact ⟨k, rfl, List.mem_range.1 (List.mem_filter.1 hk).1⟩
theorem zA1 {l : List Nt} {at_ : Int} (h : askF l at_ = 0) : chkN l = 0 := by
 unfold askF at h
 split at h
 ·rename_i h1; exact absurd h h1
 ·rename_i h1; exact Decidable.not_not.1 h1
theorem zn3 (v : Value) (l : List Nt) (at_ : Int) (hl : l.length ≤ 1000000) (hs : ∀ x ∈ l, NtS x) (h0 : askF l at_ ≠ 0) : ACalls Tryz.prog 56 [.c (.r v (noRs l)), .c (I at_)] [] fun u H => u = .t [.c (.s (.pointer none)), .c (I (askF l at_))] ∧ H = [] := by
 refine zg (N := 16) Tryz.func56 rfl rfl (by simp) fun E hE => ?_
 refine WA ?_
 refine WR ?_
 refine zh rfl (zc false (fun _ => asked_v v l at_ hl hs) rfl .fn rfl (by decide) (by kernel_rfl) rfl (fun _ => C0 rfl) (by simp)) ?_
 rintro _ _ ⟨_, _, _, ⟨rfl, rfl⟩, hF, hH⟩
 (refine NST hF hH ?_; clear hF hH; rintro rfl rfl)
 refine WE ?_
 generalize askF l at_ = e at h0 ⊢
 refine WA ?_
 refine zb rfl ?_
 refine WA ?_
 exact aret_2 [] _ rfl rfl rfl rfl rfl (by decide) (ZNK rfl) (fun _ => .nil) ⟨rfl, rfl⟩
theorem zm3 (v : Value) (l : List Nt) (at_ : Int) (hl : l.length ≤ 1000000) (hs : ∀ x ∈ l, NtS x) (h0 : askF l at_ = 0) : ACalls Tryz.prog 56 [.c (.r v (noRs l)), .c (I at_)] [] fun u H => u = .t [.p 0 0 0, .c (I 0)] ∧ BkR l at_ H := by
 refine zg (N := 16) Tryz.func56 rfl rfl (by simp) fun E hE => ?_
 refine WA ?_
 refine WR ?_
 refine zh rfl (zc false (fun _ => asked_v v l at_ hl hs) rfl .fn rfl (by decide) (by kernel_rfl) rfl (fun _ => C0 rfl) (by simp)) ?_
 rintro _ _ ⟨_, _, _, ⟨rfl, rfl⟩, hF, hH⟩
 (refine NST hF hH ?_; clear hF hH; rintro rfl rfl)
 refine WE ?_
 rw [h0]
 refine WA ?_
 refine za rfl ?_
 refine ZZ ?_
 refine WR ?_
 refine zh rfl (zc false (fun _ => booksat_v v l at_ (zp1 (zA1 h0)).1 (zp1 (zA1 h0)).2 (cntP_ix (zA1 h0))) rfl .fn rfl (by decide) (by kernel_rfl) rfl (fun _ => C0 rfl) (by simp)) ?_
 rintro _ _ ⟨_, _, _, ⟨b, R1, R2, bl, rl, rk, c1, c2, hbf, hB, hbl, hrl, hrm, h1l, h2l, hc1, hc2, rfl, rfl⟩, hF, hH⟩
 (refine NST hF hH ?_; clear hF hH; rintro rfl rfl)
 refine WE ?_
 exact zx1 (us := [.p 0 0 0, .c (I 0)]) [some 0, some 1, some 2, some 3, some 4, some 5, some 6, some 7, some 8] (fun _ => .t [.p 0 0 0, .c (I 0)]) (fun _ => [.box [.mp 1, .mp 2, .mp 3, .mp 4, .mp 5, .o 6 0 (R1).length c1, .o 7 0 (R2).length c2], mSP (jlF 0 b.js bl) b.js.length, mSS rl rk, mSS b.sp b.spk, mSI b.lf b.lfk, mSI b.us b.usk, .arr 3 1 c1 (nR (R1)), .arr 32 1 c2 (nR (R2)), .pool (plF jbP b.js bl)]) (.tmp rfl (.tmp rfl .nil)) (by decide) (ZNK rfl) (fun _ => .tL (.cons (.p rfl) (.cons (.c rfl) .nil))) ZCH (fun _ => ⟨rfl, b, R1, R2, bl, rl, rk, c1, c2, hbf, hB, hbl, hrl, hrm, h1l, h2l, hc1, hc2, rfl⟩)
def jobE (l : List Nt) (s : List UInt8) (at_ : Int) : Int := if askF l at_ ≠ 0 then askF l at_ else if keyB s = false then 5 else if (nmI (bksF l (cntP at_ l)).1.js s).isSome = true then 0 else 8
theorem jobat_v (v : Value) (l : List Nt) (at_ : Int) (hl : l.length ≤ 1000000) (hs : ∀ x ∈ l, NtS x) (s : List UInt8) (hsl : s.length ≤ 1000000) : ACalls Tryz.prog 58 [.c (.r v (noRs l)), .c (T s), .c (I at_)] [] fun u H => (jobE l s at_ ≠ 0 ∧ u = .t [.c (.s (.pointer none)), .c (I (jobE l s at_))] ∧ H = []) ∨ (jobE l s at_ = 0 ∧ ∃ (k b0 : Nat) (j : Jb) (pl : List PE), nmI (bksF l (cntP at_ l)).1.js s = some k ∧ (bksF l (cntP at_ l)).1.js[k]? = some j ∧ BkOk (bksF l (cntP at_ l)).1 2000 ∧ InPool k b0 pl (jbP j) ∧ u = .t [pV b0, .c (I 0)] ∧ H = [.pool pl]) := by
 by_cases h0 : askF l at_ = 0
 ·obtain ⟨ky_, hky⟩ : ∃ q, keyB s = q := ⟨_, rfl⟩
  refine zg (N := 35) Tryz.func58 rfl rfl (by simp) fun E hE => ?_
  refine WA ?_
  refine WR ?_
  refine zh rfl (zc false (fun _ => zm3 v l at_ hl hs h0) rfl .fn rfl (by decide) (by kernel_rfl) rfl (fun _ => C0 rfl) (by simp)) ?_
  rintro _ _ ⟨_, _, _, ⟨rfl, b, R1, R2, bl, rl, rk, c1, c2, hbf, hB, hbl, hrl, hrm, h1l, h2l, hc1, hc2, rfl⟩, hF, hH⟩
  (refine NST hF hH ?_; clear hF hH; rintro rfl rfl)
  refine WE ?_
  refine WA ?_
  refine za rfl ?_
  refine ZZ ?_
  refine WR ?_
  refine zh rfl (zc false (fun _ => zO3 s (by omega)) rfl .fn rfl (by decide) (by kernel_rfl) rfl (fun _ => C0 rfl) (by simp)) ?_
  rintro _ _ ⟨_, _, _, ⟨rfl, rfl⟩, hF, hH⟩
  rw [hky] at hF
  (refine NST hF hH ?_; clear hF hH; rintro rfl rfl)
  refine WE ?_
  cases ky_ with
  | false =>
   refine zb rfl ?_
   refine WA ?_
   have he : jobE l s at_ = 5 := by unfold jobE; rw [if_neg (by simpa using h0), if_pos hky]
   exact aret_2 [] _ rfl rfl rfl rfl rfl (by decide) (ZNK rfl) (fun _ => .nil) (.inl ⟨by rw [he]; decide, by rw [he], rfl⟩)
  | true =>
   refine za rfl ?_
   refine ZZ ?_
   rcases hnj : nmI b.js s with _ | k
   ·have hjb : (mget (jlF 0 b.js bl) s).getD (.pointer none) = .pointer none := by rw [jl_none hbl hnj]; rfl
    refine ZR ?_
    iterate 5 refine WX1 ?_
    refine ZA (zZ2 (k := s) (l := (jlF 0 b.js bl)) hjb rfl rfl rfl rfl) ?_
    refine WE ?_
    refine zb rfl ?_
    refine WA ?_
    have he : jobE l s at_ = 8 := by unfold jobE; rw [if_neg (by simpa using h0), if_neg (by rw [hky]; decide), hbf]; simp [hnj]
    exact aret_2 [] _ rfl rfl rfl rfl rfl (by decide) (ZNK rfl) (fun _ => .nil) (.inl ⟨by rw [he]; decide, by rw [he], rfl⟩)
   ·obtain ⟨j, hj, _⟩ := nmI_some hnj
    obtain ⟨b0, hb1, hb2⟩ := jl_some hbl hnj
    have hjb : (mget (jlF 0 b.js bl) s).getD (.pointer none) = ptrV b0 := by rw [hb2]; rfl
    have he : jobE l s at_ = 0 := by unfold jobE; rw [if_neg (by simpa using h0), if_neg (by rw [hky]; decide), hbf]; simp [hnj]
    refine ZR ?_
    iterate 5 refine WX1 ?_
    refine ZA (zZ2 (k := s) (l := (jlF 0 b.js bl)) hjb rfl rfl rfl rfl) ?_
    refine WE ?_
    refine za rfl ?_
    refine ZZ ?_
    refine ZR ?_
    iterate 5 refine WX1 ?_
    refine ZA (zZ2 (k := s) (l := (jlF 0 b.js bl)) hjb rfl rfl rfl rfl) ?_
    refine WE ?_
    exact aret_2 [some 8] [.pool (plF jbP b.js bl)] rfl rfl rfl rfl rfl (by decide) (ZNK rfl) ZCH (.inr ⟨he, k, b0, j, _, by rw [hbf]; exact hnj, by rw [hbf]; exact hj, by rw [hbf]; exact hB, ⟨plF_get hj hb1⟩, rfl, rfl⟩)
 ·refine zg (N := 35) Tryz.func58 rfl rfl (by simp) fun E hE => ?_
  refine WA ?_
  refine WR ?_
  refine zh rfl (zc false (fun _ => zn3 v l at_ hl hs h0) rfl .fn rfl (by decide) (by kernel_rfl) rfl (fun _ => C0 rfl) (by simp)) ?_
  rintro _ _ ⟨_, _, _, ⟨rfl, rfl⟩, hF, hH⟩
  (refine NST hF hH ?_; clear hF hH; rintro rfl rfl)
  refine WE ?_
  have he : jobE l s at_ = askF l at_ := by unfold jobE; rw [if_pos h0]
  rw [he]
  generalize askF l at_ = e at h0 ⊢
  refine WA ?_
  refine zb rfl ?_
  refine WA ?_
  exact aret_2 [] _ rfl rfl rfl rfl rfl (by decide) (ZNK rfl) (fun _ => .nil) (.inl ⟨h0, rfl, rfl⟩)
def usdF (l : List Nt) (s : List UInt8) (at_ : Int) : Int × Int := if askF l at_ ≠ 0 then (0, askF l at_) else if keyB s = false then (0, 5) else ((mget (bksF l (cntP at_ l)).1.us s).getD 0, 0)
theorem used_v (v : Value) (l : List Nt) (at_ : Int) (hl : l.length ≤ 1000000) (hs : ∀ x ∈ l, NtS x) (s : List UInt8) (hsl : s.length ≤ 1000000) : ACalls Tryz.prog 16 [.c (.r v (noRs l)), .c (T s), .c (I at_)] [] fun u H => u = .t [.c (I (usdF l s at_).1), .c (I (usdF l s at_).2)] ∧ H = [] := by
 by_cases h0 : askF l at_ = 0
 ·obtain ⟨ky_, hky⟩ : ∃ q, keyB s = q := ⟨_, rfl⟩
  refine zg (N := 28) Tryz.func16 rfl rfl (by simp) fun E hE => ?_
  refine WA ?_
  refine WR ?_
  refine zh rfl (zc false (fun _ => zm3 v l at_ hl hs h0) rfl .fn rfl (by decide) (by kernel_rfl) rfl (fun _ => C0 rfl) (by simp)) ?_
  rintro _ _ ⟨_, _, _, ⟨rfl, b, R1, R2, bl, rl, rk, c1, c2, hbf, hB, hbl, hrl, hrm, h1l, h2l, hc1, hc2, rfl⟩, hF, hH⟩
  (refine NST hF hH ?_; clear hF hH; rintro rfl rfl)
  refine WE ?_
  refine WA ?_
  refine za rfl ?_
  refine ZZ ?_
  refine WR ?_
  refine zh rfl (zc false (fun _ => zO3 s (by omega)) rfl .fn rfl (by decide) (by kernel_rfl) rfl (fun _ => C0 rfl) (by simp)) ?_
  rintro _ _ ⟨_, _, _, ⟨rfl, rfl⟩, hF, hH⟩
  rw [hky] at hF
  (refine NST hF hH ?_; clear hF hH; rintro rfl rfl)
  refine WE ?_
  cases ky_ with
  | false =>
   refine zb rfl ?_
   refine WA ?_
   have he : usdF l s at_ = (0, 5) := by unfold usdF; rw [if_neg (by simpa using h0), if_pos hky]
   exact aret_2 [] _ rfl rfl rfl rfl rfl (by decide) (ZNK rfl) (fun _ => .nil) ⟨by rw [he], rfl⟩
  | true =>
   refine za rfl ?_
   refine ZZ ?_
   obtain ⟨uv, huv⟩ : ∃ q, (mget b.us s).getD 0 = q := ⟨_, rfl⟩
   have he : usdF l s at_ = (uv, 0) := by unfold usdF; rw [if_neg (by simpa using h0), if_neg (by rw [hky]; decide), hbf, ← huv]
   refine ZR ?_
   iterate 5 refine WX1 ?_
   refine ZA (zI1 (k := s) (l := b.us) huv rfl rfl rfl rfl) ?_
   refine WE ?_
   exact aret_2 [] _ rfl rfl rfl rfl rfl (by decide) (ZNK rfl) (fun _ => .nil) ⟨by rw [he], rfl⟩
 ·refine zg (N := 28) Tryz.func16 rfl rfl (by simp) fun E hE => ?_
  refine WA ?_
  refine WR ?_
  refine zh rfl (zc false (fun _ => zn3 v l at_ hl hs h0) rfl .fn rfl (by decide) (by kernel_rfl) rfl (fun _ => C0 rfl) (by simp)) ?_
  rintro _ _ ⟨_, _, _, ⟨rfl, rfl⟩, hF, hH⟩
  (refine NST hF hH ?_; clear hF hH; rintro rfl rfl)
  refine WE ?_
  have he : usdF l s at_ = (0, askF l at_) := by unfold usdF; rw [if_pos h0]
  rw [he]
  generalize askF l at_ = e at h0 ⊢
  refine WA ?_
  refine zb rfl ?_
  refine WA ?_
  exact aret_2 [] _ rfl rfl rfl rfl rfl (by decide) (ZNK rfl) (fun _ => .nil) ⟨rfl, rfl⟩
end Go.Proofs.YtcdeonjdipcgpaaGreatDoor
-- NEWM
namespace Go.Proofs.YtcdeonjdipcgpaaGreatDoor
open Go Go.RowKit
set_option maxRecDepth 100000
end Go.Proofs.YtcdeonjdipcgpaaGreatDoor
-- NEWM
namespace Go.Proofs.YtcdeonjdipcgpaaGreatDoor
open Go Go.RowKit
set_option maxRecDepth 100000
end Go.Proofs.YtcdeonjdipcgpaaGreatDoor
-- NEWM
namespace Go.Proofs.YtcdeonjdipcgpaaGreatDoor
open Go Go.RowKit Go.Shelf
set_option maxRecDepth 100000
abbrev Pr := List UInt8 × List UInt8
abbrev prR (x : Pr) : List CV := [T x.1, T x.2]
abbrev prRs (l : List Pr) : List (List CV) := l.map prR
end Go.Proofs.YtcdeonjdipcgpaaGreatDoor
