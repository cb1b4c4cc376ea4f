/- The document's books, by value: the job that runs at a printer. -/
import Derived.Test.YtcdeonjdipcgpaaGreatDoorQbm
set_option linter.unusedSimpArgs false
set_option linter.unusedVariables false
namespace Go.Proofs.YtcdeonjdipcgpaaGreatDoor
open Go Go.RowKit
theorem ntF_ok {x : Nt} (h : ntF x = 0) : (x.kd = 1 → keyB x.jb = true ∧ 1 ≤ x.n ∧ x.n ≤ 1000) ∧ (x.kd = 2 → 1 ≤ x.n ∧ x.n ≤ 1000) ∧ (x.kd = 5 → keyB x.sp = true ∧ 1 ≤ x.n ∧ x.n ≤ 100000000) ∧ (x.kd = 6 → 1 ≤ x.n ∧ x.n ≤ 100000000) := by
 unfold ntF at h
 split at h
 ·cases h
 split at h
 ·cases h
 split at h
 ·cases h
 split at h
 ·cases h
 rename_i h4
 split at h
 ·cases h
 rename_i h5
 clear h
 refine ⟨fun hk => ?_, fun hk => ?_, fun hk => ?_, fun hk => ?_⟩
 all_goals
  rw [hk] at h4 h5
  simp [uP, uJ, uS, uU, uM, outB] at h4 h5
 ·exact ⟨h4.2, by omega, by omega⟩
 ·omega
 ·exact ⟨h4.2, by omega, by omega⟩
 ·omega
theorem key_ne {s : List UInt8} (h : keyB s = true) : s ≠ [] := fun e => by subst e; simp [keyB] at h
structure BkOk (b : Bk) (k : Nat) : Prop where
 js : JsOk b.js
 sp : MapOk b.sp b.spk
 lf : MapOk b.lf b.lfk
 us : MapOk b.us b.usk
 l : ∀ s, 0 ≤ (mget b.lf s).getD 0 ∧ (mget b.lf s).getD 0 ≤ 100000000
 u : ∀ s, 0 ≤ (mget b.us s).getD 0 ∧ (mget b.us s).getD 0 ≤ 100000000 * (k : Int)
theorem BkOk.spb {b : Bk} {k : Nat} (h : BkOk b k) (hk : k ≤ 2000) : SpB b.lf b.us := ⟨h.l, fun s => ⟨(h.u s).1, by have := (h.u s).2; omega⟩⟩
theorem JsOk.nil : JsOk [] := ⟨fun i k a b h => by simp at h, fun i k a b h => by simp at h, fun j h => (by cases h), fun j h => (by cases h), fun j h => (by cases h)⟩
theorem BkOk.zero : BkOk bk0 0 := ⟨JsOk.nil, .nil, .nil, .nil, fun s => by simp [bk0, mget], fun s => by simp [bk0, mget]⟩
theorem BkOk.more {b : Bk} {k : Nat} (h : BkOk b k) : BkOk b (k + 1) := ⟨h.js, h.sp, h.lf, h.us, h.l, fun s => ⟨(h.u s).1, by have := (h.u s).2; omega⟩⟩
theorem JsOk.lay {js : List Jb} (h : JsOk js) {p : List UInt8} {k : Nat} {j : Jb} {t : Int} (hr : runI js p = some k) (hk : js[k]? = some j) (hl : (j.ly.length : Int) + 1 ≤ j.all) : JsOk (layJ js p t) := by
 unfold layJ
 rw [hr]
 have hm := List.mem_of_getElem? hk
 exact h.mod hk (fun _ => rfl) (fun _ => rfl) (fun _ h => h) (h.st j hm) (by have := (h.all j hm).2; simp; omega)
theorem JsOk.stop {js : List Jb} (h : JsOk js) {p : List UInt8} {k : Nat} {j : Jb} {s t : Int} (hr : runI js p = some k) (hk : js[k]? = some j) (hs : s = 1 ∨ s = 2) : JsOk (stopJ js p s t) := by
 unfold stopJ
 rw [hr]
 have hm := List.mem_of_getElem? hk
 exact h.mod hk (fun _ => rfl) (fun _ => rfl) (fun _ h => by simp at h; omega) (.inr hs) (h.all j hm)
theorem runJ_at {js : List Jb} {p : List UInt8} {k : Nat} {j : Jb} (hr : runI js p = some k) (hk : js[k]? = some j) : runJ js p = some j := by unfold runJ; rw [hr]; exact hk
theorem BkOk.next {b : Bk} {k : Nat} {x : Nt} (h : BkOk b k) (hx : ntF x = 0) (hr : rfE b x = 0) : BkOk (ntS b x) (k + 1) := by
 obtain ⟨f1, f2, f5, f6⟩ := ntF_ok hx
 unfold rfE at hr
 unfold ntS
 by_cases h1 : x.kd = 1
 ·rw [if_pos h1] at hr ⊢
  obtain ⟨g1, g2, g3⟩ := f1 h1
  have e1 : nmI b.js x.jb = none := by
   cases hq : nmI b.js x.jb with
   | none => rfl
   | some q => simp [hq] at hr
  have e2 : runI b.js x.pr = none := by
   cases hq : runI b.js x.pr with
   | none => rfl
   | some q => simp [hq, e1] at hr
  exact ⟨h.js.begin e1 e2 rfl (key_ne g1) rfl ⟨show (0 : Int) ≤ x.n by omega, g3⟩, h.sp, h.lf, h.us, h.l, h.more.u⟩
 rw [if_neg h1] at hr ⊢
 by_cases h2 : x.kd = 2
 ·rw [if_pos h2] at hr ⊢
  cases hq : runI b.js x.pr with
  | none => simp [runJ, hq] at hr
  | some q =>
   obtain ⟨j, hj, _, _⟩ := zR1 hq
   rw [runJ_at hq hj] at hr
   simp only at hr
   split at hr
   ·cases hr
   ·rename_i hn
    split at hr
    ·cases hr
    ·rename_i hn2
     exact ⟨h.js.lay hq hj (by omega), h.sp, h.lf, h.us, h.l, h.more.u⟩
 rw [if_neg h2] at hr ⊢
 by_cases h3 : x.kd = 3
 ·rw [if_pos h3] at hr ⊢
  cases hq : runI b.js x.pr with
  | none => simp [runJ, hq] at hr
  | some q =>
   obtain ⟨j, hj, _, _⟩ := zR1 hq
   exact ⟨h.js.stop hq hj (.inl rfl), h.sp, h.lf, h.us, h.l, h.more.u⟩
 rw [if_neg h3] at hr ⊢
 by_cases h4 : x.kd = 4
 ·rw [if_pos h4] at hr ⊢
  cases hq : runI b.js x.pr with
  | none => simp [hq] at hr
  | some q =>
   obtain ⟨j, hj, _, _⟩ := zR1 hq
   exact ⟨h.js.stop hq hj (.inr rfl), h.sp, h.lf, h.us, h.l, h.more.u⟩
 rw [if_neg h4] at hr ⊢
 by_cases h5 : x.kd = 5
 ·rw [if_pos h5] at hr ⊢
  obtain ⟨_, g2, g3⟩ := f5 h5
  refine ⟨h.js, h.sp.set _ _, h.lf.set _ _, h.us, fun s => ?_, h.more.u⟩
  simp only
  rw [ze1]
  split
  ·simp only [Option.getD_some]; omega
  ·exact h.l s
 rw [if_neg h5] at hr ⊢
 by_cases h6 : x.kd = 6
 ·rw [if_pos h6] at hr ⊢
  obtain ⟨g2, g3⟩ := f6 h6
  cases hq : mget b.sp x.pr with
  | none => simp [hq] at hr
  | some kk =>
   simp only [hq] at hr
   have hlf := h.l kk
   have hus := h.u kk
   have hn : ¬ (mget b.lf kk).getD 0 < x.n := fun h => by simp [h] at hr
   refine ⟨h.js, h.sp, h.lf.set _ _, h.us.set _ _, fun s => ?_, fun s => ?_⟩
   ·simp only [Option.getD_some]
    rw [ze1]
    split
    ·simp only [Option.getD_some]; omega
    ·exact h.l s
   ·simp only [Option.getD_some]
    rw [ze1]
    split
    ·simp only [Option.getD_some]; omega
    ·exact h.more.u s
 rw [if_neg h6]
 exact h.more
end Go.Proofs.YtcdeonjdipcgpaaGreatDoor
-- NEWM
namespace Go.Proofs.YtcdeonjdipcgpaaGreatDoor
open Go Go.RowKit
set_option maxRecDepth 100000
abbrev Jx := Jb × Option Addr × Nat
def jbQ (x : Jx) : List CV := [T x.1.pr, T (stW x.1.st), .s (.slice x.2.1 x.1.ly.length x.2.2), I x.1.all, I x.1.beg, I (if x.1.st = 1 then x.1.en else 0)]
def jbA (x : Jx) : PE := .ar (.slice x.2.1 x.1.ly.length x.2.2) x.1.ly.length x.2.2 3 1 x.2.2 (nR x.1.ly)
abbrev jxs (X : List Jx) : List Jb := X.map (·.1)
section
variable {P : Program} {N : Nat} {E : Env} {F : Fm} {H : List OB} {K : Fm → List OB → Prop} {Q : Exit → Fm → List OB → Prop}
theorem wk_rawcell (b j : Nat) {v : Value} {rows : List (List CV)} {l : List AV} (hb : H[b]? = some (.box l)) (hj : l[j]? = some (.c (.r v rows))) (h : K F (H.set b (.box (l.set j (.c (.s v)))))) : Wk N E F H K := fun S ρ a w hR =>
 ⟨S, _, _, _, h, hR.recell hb hj rfl (.c (.s _))⟩
theorem al_take {ops : Array Oper} {rest : List Oper} {i p k : Nat} {v : Value} {l : List PE} {e : PE} (hx : F.lookup i = some (.c (.s v))) (hp : H[p]? = some (.pool l)) (hk : l[k]? = some e) (hv : e.val = v) (hne : e ≠ .out)
    (h : AL P N E ops rest ((i, e.av H.length) :: F) ((H.set p (.pool (l.set k .out)) ++ [e.ob]) ++ [.eqv (e.av H.length) v]) Q) : AL P N E ops rest F H Q :=
 al_wk (wk_take (K := fun F' H' => F' = _ ∧ H' = _) hx hp hk hv hne ⟨rfl, rfl⟩) fun F' H' ⟨h1, h2⟩ => by subst h1; subst h2; exact h
theorem at_take {ops : Array Oper} {L : List (Nat × Option (List Nat))} {i p k : Nat} {v : Value} {l : List PE} {e : PE} (hx : F.lookup i = some (.c (.s v))) (hp : H[p]? = some (.pool l)) (hk : l[k]? = some e) (hv : e.val = v) (hne : e ≠ .out)
    (h : AT P N E ops L ((i, e.av H.length) :: F) ((H.set p (.pool (l.set k .out)) ++ [e.ob]) ++ [.eqv (e.av H.length) v]) Q) : AT P N E ops L F H Q :=
 at_wk (wk_take (K := fun F' H' => F' = _ ∧ H' = _) hx hp hk hv hne ⟨rfl, rfl⟩) fun F' H' ⟨h1, h2⟩ => by subst h1; subst h2; exact h
theorem am_take {ops : Array Oper} {n0 : Nat} {ps : List Plan} {i p k : Nat} {v : Value} {l : List PE} {e : PE} (hx : F.lookup i = some (.c (.s v))) (hp : H[p]? = some (.pool l)) (hk : l[k]? = some e) (hv : e.val = v) (hne : e ≠ .out)
    (h : AM P N E ops n0 ps ((i, e.av H.length) :: F) ((H.set p (.pool (l.set k .out)) ++ [e.ob]) ++ [.eqv (e.av H.length) v]) Q) : AM P N E ops n0 ps F H Q :=
 am_wk (wk_take (K := fun F' H' => F' = _ ∧ H' = _) hx hp hk hv hne ⟨rfl, rfl⟩) fun F' H' ⟨h1, h2⟩ => by subst h1; subst h2; exact h
end
theorem zd4 : ∀ {js : List Jb} {bl : List Nat} {i : Nat} {e : Nat × List UInt8 × Value}, e ∈ jlF i js bl → ∃ k j b, js[k]? = some j ∧ bl[k]? = some b ∧ e = (i + k, j.nm, ptrV b)
 | [], _, _, _, h => by simp [jlF] at h
 | _ :: _, [], _, _, h => by simp [jlF] at h
 | x :: js, d :: bl, i, e, h => by
  simp only [jlF, List.mem_cons] at h
  rcases h with rfl | h
  ·exact ⟨0, x, d, rfl, rfl, rfl⟩
  ·obtain ⟨k, j, b, h1, h2, h3⟩ := zd4 h
   exact ⟨k + 1, j, b, by simpa using h1, by simpa using h2, by rw [h3, show i + 1 + k = i + (k + 1) by omega]⟩
theorem jlF_in : ∀ {js : List Jb} {bl : List Nat} {i k : Nat} {j : Jb} {b : Nat}, js[k]? = some j → bl[k]? = some b → (i + k, j.nm, ptrV b) ∈ jlF i js bl
 | [], _, _, _, _, _, h, _ => by simp at h
 | _ :: _, [], _, _, _, _, _, h => by simp at h
 | x :: js, d :: bl, i, 0, j, b, h1, h2 => by
  simp only [List.getElem?_cons_zero, Option.some.injEq] at h1 h2
  subst h1; subst h2
  simp [jlF]
 | x :: js, d :: bl, i, k + 1, j, b, h1, h2 => by
  simp only [List.getElem?_cons_succ] at h1 h2
  have := jlF_in (i := i + 1) h1 h2
  rw [show i + 1 + k = i + (k + 1) by omega] at this
  exact List.mem_cons_of_mem _ this
theorem zA2 : ∀ {js : List Jb} {bl : List Nat} {i : Nat}, bl.length = js.length → (jlF i js bl).map (·.1) = List.range' i js.length
 | [], [], _, _ => rfl
 | x :: js, d :: bl, i, h => by
  simp only [jlF, List.map_cons, List.length_cons, List.range'_succ]
  rw [zA2 (by simpa using h)]
 | [], _ :: _, _, h => by simp at h
 | _ :: _, [], _, h => by simp at h
theorem jlF_names : ∀ {js : List Jb} {bl : List Nat} {i : Nat}, bl.length = js.length → (jlF i js bl).map (·.2.1) = js.map Jb.nm
 | [], [], _, _ => rfl
 | x :: js, d :: bl, i, h => by
  simp only [jlF, List.map_cons]
  rw [jlF_names (by simpa using h)]
 | [], _ :: _, _, h => by simp at h
 | _ :: _, [], _, h => by simp at h
theorem JsOk.names {js : List Jb} (h : JsOk js) : (js.map Jb.nm).Nodup := by
 rw [List.Nodup, List.pairwise_iff_getElem]
 intro i k hi hk hik
 rw [List.length_map] at hi hk
 rw [List.getElem_map, List.getElem_map]
 exact fun e => by have := h.nm i k _ _ (List.getElem?_eq_getElem hi) (List.getElem?_eq_getElem hk) e; omega
theorem jlF_ok {js : List Jb} {bl : List Nat} (h : JsOk js) (hb : bl.length = js.length) : MapOk (jlF 0 js bl) js.length :=
 ⟨fun e he => by
  obtain ⟨k, j, b, h1, _, rfl⟩ := zd4 he
  have := (List.getElem?_eq_some_iff.1 h1).1
  simpa using this, by rw [zA2 hb]; exact List.nodup_range', by rw [jlF_names hb]; exact h.names⟩
def runP (js : List Jb) (bl : List Nat) (p : List UInt8) : Value := match runI js p with
 | some k => (match bl[k]? with
  | some b => ptrV b
  | none => .pointer none)
 | none => .pointer none
theorem stW_runs {s : Int} (h : s = 0 ∨ s = 1 ∨ s = 2) : stW s = [114, 117, 110, 115] ↔ s = 0 := by
 rcases h with rfl | rfl | rfl <;> simp [stW]
set_option maxHeartbeats 2000000 in
theorem running_v (X : List Jx) (bl : List Nat) (sp : List (Nat × List UInt8 × List UInt8)) (spk : Nat) (lf : List (Nat × List UInt8 × Int)) (lfk : Nat) (us : List (Nat × List UInt8 × Int)) (usk : Nat) (c1 c2 : Nat) (R1 R2 : List Int) (s : List UInt8) (hJ : JsOk (jxs X)) (hbl : bl.length = X.length) : ACallsX true Tryz.prog 176 [.p 0 0 0, .c (T s)] [.box [.mp 1, .mp 2, .mp 3, .mp 4, .o 5 0 (R1).length c1, .o 6 0 (R2).length c2], mSP (jlF 0 (jxs X) bl) (X).length, mSS sp spk, mSI lf lfk, mSI us usk, .arr 3 1 c1 (nR (R1)), .arr 32 1 c2 (nR (R2)), .pool (plF jbQ X bl), .pool (X.map jbA)] fun u H => u = .c (.s (runP (jxs X) bl s)) ∧ H = [.box [.mp 1, .mp 2, .mp 3, .mp 4, .o 5 0 (R1).length c1, .o 6 0 (R2).length c2], mSP (jlF 0 (jxs X) bl) (X).length, mSS sp spk, mSI lf lfk, mSI us usk, .arr 3 1 c1 (nR (R1)), .arr 32 1 c2 (nR (R2)), .pool (plF jbQ X bl), .pool (X.map jbA)] := by
 have hbj : bl.length = (jxs X).length := by rw [hbl, List.length_map]
 have hok : MapOk (jlF 0 (jxs X) bl) X.length := by have := jlF_ok hJ hbj; rwa [List.length_map] at this
 have hpx : PoolIx 7 := ⟨trivial⟩
 refine zY true (N := 30) Tryz.func176 rfl rfl (by simp) fun E hE hP => ?_
 refine WA ?_
 refine ZR ?_
 iterate 4 refine WX1 ?_
 refine zf rfl (zh2 (ke := encSt) (ve := encPt) (l := jlF 0 (jxs X) bl) (ck := X.length) rfl rfl (by decide) Tryz.underlying117 rfl rfl) ?_
 rintro _ _ ⟨rfl, rfl⟩
 refine WE ?_
 refine zC (fun m F H => ∃ (seen : List Nat), unsG (jlF 0 (jxs X) bl) seen = m ∧ (∀ (k : Nat) (j : Jb), (jxs X)[k]? = some j → k ∈ seen → ¬ (j.pr = s ∧ j.st = 0)) ∧ F = [(1, .c (T s)), (11, .p 9 0 0)] ∧ H = [.box [.mp 1, .mp 2, .mp 3, .mp 4, .o 5 0 (R1).length c1, .o 6 0 (R2).length c2], mSP (jlF 0 (jxs X) bl) (X).length, mSS sp spk, mSI lf lfk, mSI us usk, .arr 3 1 c1 (nR (R1)), .arr 32 1 c2 (nR (R2)), .pool (plF jbQ X bl), .pool (X.map jbA), .itr 1 X.length seen X.length]) ?_ ?_
 ·refine zn [some 0, some 1, some 2, some 3, some 4, some 5, some 6, some 7, some 8, some 9] (fun _ => [(1, .c (T s)), (11, .p 9 0 0)]) (fun _ => [.box [.mp 1, .mp 2, .mp 3, .mp 4, .o 5 0 (R1).length c1, .o 6 0 (R2).length c2], mSP (jlF 0 (jxs X) bl) (X).length, mSS sp spk, mSI lf lfk, mSI us usk, .arr 3 1 c1 (nR (R1)), .arr 32 1 c2 (nR (R2)), .pool (plF jbQ X bl), .pool (X.map jbA), .itr 1 X.length [] X.length]) (by decide) (ZNL hE) ZCF ZCH (fun _ => ?_)
  exact ⟨_, [], rfl, fun k j _ h => (by cases h), rfl, rfl⟩
 rintro m F H ⟨seen, hm, hs, rfl, rfl⟩
 refine ZR ?_
 refine zf rfl (zL2 (ke := encSt) (ve := encPt) (l := jlF 0 (jxs X) bl) rfl rfl (by decide) rfl rfl rfl hok.hb (Nat.le_refl _)) ?_
 rintro _ _ (⟨⟨eb, ek, es⟩, he, hne, rfl, rfl⟩ | ⟨hall, rfl, rfl⟩)
 all_goals (refine WE ?_)
 ·refine zb rfl ?_
  have hlt := zH2 he hne
  obtain ⟨k, j, b, hj, hb, heq⟩ := zd4 he
  injection heq with q1 q2
  injection q2 with q2 q3
  subst q1; subst q2; subst q3
  obtain ⟨x, hx, rfl⟩ : ∃ x, X[k]? = some x ∧ x.1 = j := by
   rw [List.getElem?_map] at hj
   exact Option.map_eq_some_iff.1 hj
  obtain ⟨j, A, c⟩ := x
  have hin : InPool k b (plF jbQ X bl) [T j.pr, T (stW j.st), .s (.slice A j.ly.length c), I j.all, I j.beg, I (if j.st = 1 then j.en else 0)] := ⟨zx2 hx hb⟩
  refine ZR ?_
  refine ZA (zg2 (ke := encSt) (ve := encPt) (e := (0 + k, j.nm, ptrV b)) rfl rfl rfl rfl he hok.nb) ?_
  refine WE ?_
  obtain ⟨q, hq⟩ : ∃ q, decide (j.pr = s) = q := ⟨_, rfl⟩
  obtain ⟨q4, hq4⟩ : ∃ q, decide (stW j.st = [114, 117, 110, 115]) = q := ⟨_, rfl⟩
  have hst : stW j.st = [114, 117, 110, 115] ↔ j.st = 0 := stW_runs (hJ.st j (List.mem_of_getElem? hj))
  have hnx : ¬ (j.pr = s ∧ j.st = 0) → ∀ (k2 : Nat) (j2 : Jb), (jxs X)[k2]? = some j2 → k2 ∈ seen ++ [0 + k] → ¬ (j2.pr = s ∧ j2.st = 0) := fun hn k2 j2 h2 h3 => by
   rcases List.mem_append.1 h3 with h3 | h3
   ·exact hs k2 j2 h2 h3
   ·rw [List.mem_singleton, Nat.zero_add] at h3
    subst h3
    rw [hj] at h2
    injection h2 with h2
    subst h2
    exact hn
  cases q with
  | false =>
   refine ZR ?_
   iterate 5 refine WX1 ?_
   refine ZA (zT (a := j.pr) (b := s) hq rfl Tryz.underlying9 rfl rfl) ?_
   iterate 5 refine WX1 ?_
   first | refine ZP (zT (a := stW j.st) (b := [114, 117, 110, 115]) hq4 rfl Tryz.underlying9 rfl rfl) ?_ | refine ZS ?_
   refine WE ?_
   refine za rfl ?_
   refine ZZ ?_
   refine zn [some 0, some 1, some 2, some 3, some 4, some 5, some 6, some 7, some 8, some 9] (fun _ => [(1, .c (T s)), (11, .p 9 0 0)]) (fun _ => [.box [.mp 1, .mp 2, .mp 3, .mp 4, .o 5 0 (R1).length c1, .o 6 0 (R2).length c2], mSP (jlF 0 (jxs X) bl) (X).length, mSS sp spk, mSI lf lfk, mSI us usk, .arr 3 1 c1 (nR (R1)), .arr 32 1 c2 (nR (R2)), .pool (plF jbQ X bl), .pool (X.map jbA), .itr 1 X.length (seen ++ [0 + k]) X.length]) (by decide) (ZNL hE) ZCF ZCH (fun _ => ?_)
   exact ⟨_, by rw [← hm]; exact hlt, seen ++ [0 + k], rfl, hnx (fun h => of_decide_eq_false hq h.1), rfl, rfl⟩
  | true =>
   cases q4 with
   | false =>
    refine ZR ?_
    iterate 5 refine WX1 ?_
    refine ZA (zT (a := j.pr) (b := s) hq rfl Tryz.underlying9 rfl rfl) ?_
    iterate 5 refine WX1 ?_
    first | refine ZP (zT (a := stW j.st) (b := [114, 117, 110, 115]) hq4 rfl Tryz.underlying9 rfl rfl) ?_ | refine ZS ?_
    refine WE ?_
    refine za rfl ?_
    refine ZZ ?_
    refine zn [some 0, some 1, some 2, some 3, some 4, some 5, some 6, some 7, some 8, some 9] (fun _ => [(1, .c (T s)), (11, .p 9 0 0)]) (fun _ => [.box [.mp 1, .mp 2, .mp 3, .mp 4, .o 5 0 (R1).length c1, .o 6 0 (R2).length c2], mSP (jlF 0 (jxs X) bl) (X).length, mSS sp spk, mSI lf lfk, mSI us usk, .arr 3 1 c1 (nR (R1)), .arr 32 1 c2 (nR (R2)), .pool (plF jbQ X bl), .pool (X.map jbA), .itr 1 X.length (seen ++ [0 + k]) X.length]) (by decide) (ZNL hE) ZCF ZCH (fun _ => ?_)
    exact ⟨_, by rw [← hm]; exact hlt, seen ++ [0 + k], rfl, hnx (fun h => of_decide_eq_false hq4 (hst.2 h.2)), rfl, rfl⟩
   | true =>
    refine ZR ?_
    iterate 5 refine WX1 ?_
    refine ZA (zT (a := j.pr) (b := s) hq rfl Tryz.underlying9 rfl rfl) ?_
    iterate 5 refine WX1 ?_
    first | refine ZP (zT (a := stW j.st) (b := [114, 117, 110, 115]) hq4 rfl Tryz.underlying9 rfl rfl) ?_ | refine ZS ?_
    refine WE ?_
    refine zb rfl ?_
    refine WA ?_
    have hr : runP (jxs X) bl s = ptrV b := by
     have h1 := runI_is hJ hj (hst.1 (of_decide_eq_true hq4))
     rw [of_decide_eq_true hq] at h1
     unfold runP
     rw [h1]
     simp only
     rw [hb]
    exact ze [some 0, some 1, some 2, some 3, some 4, some 5, some 6, some 7, some 8] [.box [.mp 1, .mp 2, .mp 3, .mp 4, .o 5 0 (R1).length c1, .o 6 0 (R2).length c2], mSP (jlF 0 (jxs X) bl) (X).length, mSS sp spk, mSI lf lfk, mSI us usk, .arr 3 1 c1 (nR (R1)), .arr 32 1 c2 (nR (R2)), .pool (plF jbQ X bl), .pool (X.map jbA)] rfl rfl rfl (by decide) (ZNK rfl) ZCH ⟨by rw [hr], rfl⟩
 ·refine za rfl ?_
  have hr : runP (jxs X) bl s = .pointer none := by
   unfold runP
   have : runI (jxs X) s = none := fndI_no fun j hj => by
    obtain ⟨k, hk⟩ := List.mem_iff_getElem?.1 hj
    obtain ⟨b, hb⟩ : ∃ b, bl[k]? = some b := ⟨_, List.getElem?_eq_getElem (by rw [hbj]; exact (List.getElem?_eq_some_iff.1 hk).1)⟩
    have h1 := hs k j hk (by simpa using hall _ (jlF_in (i := 0) hk hb))
    by_cases h2 : j.pr = s
    ·simp [h2]; exact fun h => h1 ⟨h2, h⟩
    ·simp [h2]
   rw [this]
  refine ZZ ?_
  refine WA ?_
  exact ze [some 0, some 1, some 2, some 3, some 4, some 5, some 6, some 7, some 8] [.box [.mp 1, .mp 2, .mp 3, .mp 4, .o 5 0 (R1).length c1, .o 6 0 (R2).length c2], mSP (jlF 0 (jxs X) bl) (X).length, mSS sp spk, mSI lf lfk, mSI us usk, .arr 3 1 c1 (nR (R1)), .arr 32 1 c2 (nR (R2)), .pool (plF jbQ X bl), .pool (X.map jbA)] rfl rfl rfl (by decide) (ZNK rfl) ZCH ⟨by rw [hr], rfl⟩
end Go.Proofs.YtcdeonjdipcgpaaGreatDoor
