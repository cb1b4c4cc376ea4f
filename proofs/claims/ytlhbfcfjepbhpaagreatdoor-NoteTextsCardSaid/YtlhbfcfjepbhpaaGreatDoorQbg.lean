/- A line of notes is read, by value. -/
import Derived.Test.YtlhbfcfjepbhpaaGreatDoorQbd
import Derived.Test.YtlhbfcfjepbhpaaGreatDoorQaz
import Derived.Test.YtlhbfcfjepbhpaaGreatDoorQbe
import Derived.Test.YtlhbfcfjepbhpaaGreatDoorQba
set_option linter.unusedSimpArgs false
set_option linter.unusedVariables false
namespace Go.Proofs.YtlhbfcfjepbhpaaGreatDoor
open Go Go.RowKit
def rdE (p : Option (List Nt) × Nat) : List Nt × Int × Int := match p.1 with
 | none => ([], (p.2 : Int), 9)
 | some r => if chkN r ≠ 0 then ([], 0, chkN r) else (r, 0, 0)
def rdF (t : List UInt8) : List Nt × Int × Int := if 200000 < t.length then ([], 0, 2) else rdE (rdL (lnsF t).2 (lnsF t).1 0)
def rdI (en : Bool) (ls : List (List UInt8)) (k : Nat) (out : List Nt) : Prop := rdL en ls 0 = ((rdL en (ls.drop k) k).1.map (out ++ ·), (rdL en (ls.drop k) k).2)
theorem rdI_0 (en : Bool) (ls : List (List UInt8)) : rdI en ls 0 [] := by
 unfold rdI
 rw [List.drop_zero]
 cases h : rdL en ls 0 with
 | mk a b => cases a <;> simp
theorem rdI_bad {en : Bool} {ls : List (List UInt8)} {k : Nat} {out : List Nt} {s : List UInt8} (h : rdI en ls k out) (hs : ls[k]? = some s) (hr : rnF s = none ∨ (en = false ∧ k + 1 = ls.length)) : rdL en ls 0 = (none, k) := by
 unfold rdI at h
 rw [drop_at hs] at h
 rw [h, rdL]
 rcases hr with hr | ⟨he, hk⟩
 ·rw [hr]; rfl
 ·cases rnF s with
  | none => rfl
  | some x =>
   simp only
   rw [if_pos ⟨he, List.drop_eq_nil_of_le (by omega)⟩]
   rfl
theorem rdI_next {en : Bool} {ls : List (List UInt8)} {k : Nat} {out : List Nt} {s : List UInt8} {x : Nt} (h : rdI en ls k out) (hs : ls[k]? = some s) (hr : rnF s = some x) (hn : ¬ (en = false ∧ k + 1 = ls.length)) : rdI en ls (k + 1) (out ++ [x]) := by
 unfold rdI at h ⊢
 have hk := (List.getElem?_eq_some_iff.1 hs).1
 rw [drop_at hs] at h
 rw [h, rdL, hr]
 simp only
 have hd : ¬ (en = false ∧ ls.drop (k + 1) = []) := fun ⟨h1, h2⟩ => hn ⟨h1, by have := List.drop_eq_nil_iff.1 h2; omega⟩
 rw [if_neg hd]
 cases (rdL en (ls.drop (k + 1)) (k + 1)).1 <;> simp
theorem rdI_end {en : Bool} {ls : List (List UInt8)} {out : List Nt} (h : rdI en ls ls.length out) : (rdL en ls 0).1 = some out := by
 unfold rdI at h
 rw [h, List.drop_length]
 simp [rdL]
theorem jn_len (w : List UInt8) (ws : List (List UInt8)) (h : ∀ x ∈ w :: ws, x.length ≤ 40) : (jnF (w :: ws)).length ≤ 41 * (ws.length + 1) := by
 unfold jnF
 rw [List.length_append, Lib.join_length]
 have : ∀ l : List (List UInt8), (∀ x ∈ l, x.length ≤ 40) → Lib.lens l ≤ 40 * l.length := fun l => by
  induction l with
  | nil => intro _; simp [Lib.lens]
  | cons a l ih =>
   intro hl
   have h1 := hl a List.mem_cons_self
   have h2 := ih fun x hx => hl x (List.mem_cons_of_mem _ hx)
   simp only [Lib.lens, List.map_cons, List.sum_cons, List.length_cons] at h2 ⊢
   omega
 have := this (w :: ws) h
 simp only [List.length_cons, List.length_nil] at this ⊢
 omega
theorem tx_words {x : Nt} (h : ntF x = 0) : (∀ w ∈ txW x, w.length ≤ 40) ∧ (txW x).length ≤ 10 := by
 obtain ⟨h1, h2, h3, h4, e1, e2, e3, e4, e5, g1, g2, g3, g4, g5⟩ := zf3 h
 have key : ∀ {s : List UInt8}, keyB s = true → s.length ≤ 40 := fun hk => (key_bytes hk).2.1
 have num : ∀ {n : Int}, 0 ≤ n → n ≤ 345686399999 → (Lib.itoa n).length ≤ 40 := fun {n} ha hb => by
  have := Lib.itoa_length_le n (by omega) (by omega)
  omega
 have nul : ([] : List UInt8).length ≤ 40 := by simp
 have b1 : x.pr.length ≤ 40 := by cases hu : uP x.kd with | true => exact key (e1 hu) | false => rw [g1 hu]; exact nul
 have b2 : x.jb.length ≤ 40 := by cases hu : uJ x.kd with | true => exact key (e2 hu) | false => rw [g2 hu]; exact nul
 have b3 : x.sp.length ≤ 40 := by cases hu : uS x.kd with | true => exact key (e3 hu) | false => rw [g3 hu]; exact nul
 have b4 : x.of_.length ≤ 40 := by cases hu : uU x.kd with | true => exact key (e4 hu).1 | false => rw [(g5 hu).1]; exact nul
 have b5 : uU x.kd = true → (Lib.itoa x.ot).length ≤ 40 := fun hu => num (by have := e4 hu; omega) (by have := e4 hu; omega)
 have b6 : 0 < uM x.kd → (Lib.itoa x.n).length ≤ 40 := fun hu => by
  have h5 := e5 hu
  have : uM x.kd ≤ 100000000 := by unfold uM; split <;> (try split) <;> omega
  exact num (by omega) (by omega)
 have b0 := (kwI_kwA x.kd h4).2.2.2.2
 constructor
 ·intro w hw
  unfold txW at hw
  rw [List.mem_append, List.mem_append, List.mem_append, List.mem_filter] at hw
  rcases hw with ((hw | ⟨hw, _⟩) | hw) | hw
  ·simp only [List.mem_cons, List.not_mem_nil, or_false] at hw
   rcases hw with rfl | rfl | rfl | rfl
   ·exact key h1
   ·exact num (by omega) (by omega)
   ·exact num (by omega) (by omega)
   ·omega
  ·simp only [List.mem_cons, List.not_mem_nil, or_false] at hw
   rcases hw with rfl | rfl | rfl <;> assumption
  ·split at hw
   ·rw [List.mem_singleton] at hw; subst hw; exact b6 (by assumption)
   ·cases hw
  ·split at hw
   ·rename_i hu
    simp only [List.mem_cons, List.not_mem_nil, or_false] at hw
    rcases hw with rfl | rfl
    ·exact b4
    ·exact b5 hu
   ·cases hw
 ·unfold txW
  have := List.length_filter_le (fun s => decide (s ≠ [])) [x.pr, x.jb, x.sp]
  generalize [x.pr, x.jb, x.sp].filter (fun s => decide (s ≠ [])) = ff at this ⊢
  simp only [List.length_append, List.length_cons, List.length_nil] at this ⊢
  split <;> split <;> simp only [List.length_cons, List.length_nil] <;> omega
theorem tx_len {x : Nt} (h : ntF x = 0) : (jnF (txW x)).length ≤ 410 := by
 obtain ⟨h1, h2⟩ := tx_words h
 have e : txW x = x.st :: (txW x).tail := rfl
 have := jn_len x.st (txW x).tail (by rw [← e]; exact h1)
 rw [← e] at this
 have h3 : (txW x).tail.length + 1 = (txW x).length := by rw [e]; rfl
 omega
theorem txF_len : ∀ {l : List Nt}, (∀ x ∈ l, ntF x = 0) → (txF l).length ≤ 410 * l.length
 | [], _ => Nat.zero_le _
 | x :: l, h => by
  have h1 := tx_len (h x List.mem_cons_self)
  have h2 := txF_len (l := l) fun y hy => h y (List.mem_cons_of_mem _ hy)
  unfold txF at h2 ⊢
  rw [List.map_cons, List.flatten_cons, List.length_append, List.length_cons]
  omega
end Go.Proofs.YtlhbfcfjepbhpaaGreatDoor
-- GAG
namespace Go.Proofs.YtlhbfcfjepbhpaaGreatDoor
open Go Go.RowKit
set_option maxRecDepth 1000000
theorem nnum_v (V : Value) (l : List (List UInt8)) (bad : Bool) (hl : ∀ w ∈ l, w.length ≤ 1000000) : ACalls Tryz.prog 118 [.p 0 0 0] [wbx V l bad] fun u H => ∃ V', u = .c (I (nmw l)) ∧ H = [wbx V' l.tail (bad || nbw l)] := by
 have hw : (l.headD []).length ≤ 1000000 := by
  cases l with
  | nil => simp
  | cons a l => exact hl a List.mem_cons_self
 have hem : l.isEmpty = true → numF (l.headD []) = none := fun h => by
  cases l with
  | nil => rfl
  | cons a l => cases h
 have hkn := number_v (l.headD []) hw
 unfold nmw nbw
 generalize hx : numF (l.headD []) = x at hem hkn ⊢
 have hb : (bad || l.isEmpty || !x.isSome) = (bad || x.isNone) := by
  cases x with
  | none => simp
  | some n =>
   have : l.isEmpty = false := by
    cases h : l.isEmpty with
    | true => cases hem h
    | false => rfl
   simp [this]
 refine za1 false (N := 23) Tryz.func118 rfl rfl (by simp) fun E hE hP => ?_
 refine WA ?_
 refine WR ?_
 refine zf rfl (zX [0] (fun _ => [wbx V l bad]) false (fun _ => next_v V l bad) rfl .fn rfl (by decide) (by kernel_rfl) rfl (fun _g => .cons (.p rfl) .nil) (by decide) ZCH (by simp)) ?_
 rintro F1 H1 ⟨_, _, _, _, ⟨vw1, rfl, rfl⟩, hF, hH⟩
 (refine NSU hF hH ?_; clear hF hH; rintro rfl rfl)
 refine zf rfl (zc false (fun _ => hkn) rfl .fn rfl (by decide) (by kernel_rfl) rfl (fun _ => C0 rfl) (by simp)) ?_
 rintro _ _ ⟨_, _, _, ⟨rfl, rfl⟩, hF, hH⟩
 (refine NST hF hH ?_; clear hF hH; rintro rfl rfl)
 refine WE ?_
 rw [← hb]
 generalize (bad || l.isEmpty) = b1
 cases b1 with
 | true =>
  cases x with
  | none =>
   refine WA ?_
   refine WA ?_
   exact zh [some 0] [wbx vw1 l.tail true] rfl rfl rfl (by decide) (ZNK rfl) ZCH ⟨vw1, rfl, rfl⟩
  | some n =>
   refine WA ?_
   refine WA ?_
   exact zh [some 0] [wbx vw1 l.tail true] rfl rfl rfl (by decide) (ZNK rfl) ZCH ⟨vw1, rfl, rfl⟩
 | false =>
  cases x with
  | none =>
   refine WA ?_
   refine WA ?_
   exact zh [some 0] [wbx vw1 l.tail true] rfl rfl rfl (by decide) (ZNK rfl) ZCH ⟨vw1, rfl, rfl⟩
  | some n =>
   refine WA ?_
   refine WA ?_
   exact zh [some 0] [wbx vw1 l.tail false] rfl rfl rfl (by decide) (ZNK rfl) ZCH ⟨vw1, rfl, rfl⟩
theorem kindex_v (V : Value) (w : List UInt8) : ACalls Tryz.prog 119 [.c (.r V (wR kwL)), .c (T w)] [] fun u H => u = .c (I (kwI w)) ∧ H = [] := by
 rw [← kwI_idx]
 exact sindex_v V kwL w (by decide)
theorem tlw {P : List UInt8 → Prop} {l : List (List UInt8)} (h : ∀ w ∈ l, P w) : ∀ w ∈ l.tail, P w := fun w hw => h w (List.mem_of_mem_tail hw)
theorem words_no {s : List UInt8} (hl : s.length ≤ 1000000) (h : wrdsF s = none) : ACalls Tryz.prog 116 [.c (T s)] [] fun u H => (∃ V, u = .t [.c (.r V []), .c (B false)]) ∧ H = [] := by
 have := words_v s hl
 rw [h] at this
 exact this
theorem words_ok {s : List UInt8} {l : List (List UInt8)} (hl : s.length ≤ 1000000) (h : wrdsF s = some l) : ACalls Tryz.prog 116 [.c (T s)] [] fun u H => (∃ V, u = .t [.c (.r V (wR l)), .c (B true)]) ∧ H = [] := by
 have := words_v s hl
 rw [h] at this
 exact this
set_option maxHeartbeats 2000000 in
theorem readnote_v (s : List UInt8) (hl : s.length ≤ 1000000) : ACalls Tryz.prog 65 [.c (T s)] [] fun u H => ∃ x : Nt, u = .t [noA x, .c (B (rnF s).isSome)] ∧ (∀ y, rnF s = some y → x = y) ∧ H = [] := by
 refine zg (N := 81) Tryz.func65 rfl rfl (by simp) fun E hE => ?_
 cases hws : wrdsF s with
 | none =>
  have hr : rnF s = none := by unfold rnF; rw [hws]; rfl
  rw [hr]
  refine WA ?_
  refine WR ?_
  refine zf rfl (zc false (fun _ => words_no hl hws) rfl .fn rfl (by decide) (by kernel_rfl) rfl (fun _ => C0 rfl) (by simp)) ?_
  rintro _ _ ⟨_, _, _, ⟨⟨vl, rfl⟩, rfl⟩, hF, hH⟩
  (refine NST hF hH ?_; clear hF hH; rintro rfl rfl)
  refine WE ?_
  refine WA ?_
  refine zb rfl ?_
  refine ZZ ?_
  refine WA ?_
  exact zu (us := [.a [.c (T []), .c (I 0), .c (I 0), .c (I 0), .c (T []), .c (T []), .c (T []), .c (I 0), .c (T []), .c (I 0)], .c (B false)]) [] (fun _ => .t [.a [.c (T []), .c (I 0), .c (I 0), .c (I 0), .c (T []), .c (T []), .c (T []), .c (I 0), .c (T []), .c (I 0)], .c (B false)]) (fun _ => []) (.cella (n := 10) rfl (by kernel_rfl) (Cells.box rfl) (by simp) (by (try simp only [nm, putL, Nat.reduceAdd, cellsOf, cvOf]) <;> rfl) (.tmp rfl .nil)) (by decide) (ZNK rfl) (fun _ => .tL (.cons (.aL (C0 rfl)) (.cons (.c rfl) .nil))) ZCH (fun _ => ⟨⟨[], 0, 0, 0, [], [], [], 0, [], 0⟩, rfl, fun y hy => (by cases hy), rfl⟩)
 | some l =>
  have he1 : rnF s = rwF l := by unfold rnF; rw [hws]; rfl
  have hlw : ∀ w ∈ l, w.length ≤ 1000000 := fun w hw => by
   unfold wrdsF at hws
   split at hws
   ·cases hws
   ·injection hws with hws
    subst hws
    have := (zs3 (c := 32) _ s rfl w hw).2.1
    omega
  have hbd := kwI_bd (hdw l.tail.tail.tail)
  refine WA ?_
  refine WR ?_
  refine zf rfl (zc false (fun _ => words_ok hl hws) rfl .fn rfl (by decide) (by kernel_rfl) rfl (fun _ => C0 rfl) (by simp)) ?_
  rintro _ _ ⟨_, _, _, ⟨⟨vl, rfl⟩, rfl⟩, hF, hH⟩
  (refine NST hF hH ?_; clear hF hH; rintro rfl rfl)
  refine WE ?_
  refine WA ?_
  refine za rfl ?_
  refine ZZ ?_
  refine WA ?_
  refine WR ?_
  refine zf rfl (zX [1] (fun _ => [wbx vl (l) (false)]) false (fun _ => next_v vl (l) (false)) rfl .fn rfl (by decide) (by kernel_rfl) rfl (fun _g => .cons (.p rfl) .nil) (by decide) ZCH (by simp) (.inl ⟨_, hE, rfl⟩)) ?_
  rintro F1 H1 ⟨_, _, _, _, ⟨va1, rfl, rfl⟩, hF, hH⟩
  (refine NSU hF hH ?_; clear hF hH; rintro rfl rfl)
  refine WO ?_
  refine zf rfl (zX [1] (fun _ => [wbx va1 (l.tail) (or false l.isEmpty)]) false (fun _ => nnum_v va1 (l.tail) (or false l.isEmpty) (tlw hlw)) rfl .fn rfl (by decide) (by kernel_rfl) rfl (fun _g => .cons (.p rfl) .nil) (by decide) ZCH (by simp) (.inl ⟨_, hE, rfl⟩)) ?_
  rintro F1 H1 ⟨_, _, _, _, ⟨va2, rfl, rfl⟩, hF, hH⟩
  (refine NSU hF hH ?_; clear hF hH; rintro rfl rfl)
  refine WO ?_
  refine zf rfl (zX [1] (fun _ => [wbx va2 (l.tail.tail) (or (or false l.isEmpty) (nbw l.tail))]) false (fun _ => nnum_v va2 (l.tail.tail) (or (or false l.isEmpty) (nbw l.tail)) (tlw (tlw hlw))) rfl .fn rfl (by decide) (by kernel_rfl) rfl (fun _g => .cons (.p rfl) .nil) (by decide) ZCH (by simp) (.inl ⟨_, hE, rfl⟩)) ?_
  rintro F1 H1 ⟨_, _, _, _, ⟨va3, rfl, rfl⟩, hF, hH⟩
  (refine NSU hF hH ?_; clear hF hH; rintro rfl rfl)
  refine zf rfl (zc false (fun _ => kindwords_v) rfl .fn rfl (by decide) (by kernel_rfl) rfl (fun _ => C0 rfl) (by simp)) ?_
  rintro _ _ ⟨_, _, _, ⟨⟨vk, rfl⟩, rfl⟩, hF, hH⟩
  (refine NST hF hH ?_; clear hF hH; rintro rfl rfl)
  refine WO ?_
  refine zf rfl (zX [1] (fun _ => [wbx va3 (l.tail.tail.tail) (or (or (or false l.isEmpty) (nbw l.tail)) (nbw l.tail.tail))]) false (fun _ => next_v va3 (l.tail.tail.tail) (or (or (or false l.isEmpty) (nbw l.tail)) (nbw l.tail.tail))) rfl .fn rfl (by decide) (by kernel_rfl) rfl (fun _g => .cons (.p rfl) .nil) (by decide) ZCH (by simp) (.inl ⟨_, hE, rfl⟩)) ?_
  rintro F1 H1 ⟨_, _, _, _, ⟨va4, rfl, rfl⟩, hF, hH⟩
  (refine NSU hF hH ?_; clear hF hH; rintro rfl rfl)
  refine zf rfl (zc false (fun _ => kindex_v _ _) rfl .fn rfl (by decide) (by kernel_rfl) rfl (fun _ => C0 rfl) (by simp)) ?_
  rintro _ _ ⟨_, _, _, ⟨rfl, rfl⟩, hF, hH⟩
  (refine NST hF hH ?_; clear hF hH; rintro rfl rfl)
  refine WE ?_
  change AW _ _ _ _ _ [_, wbx va4 (t4w l) (b4 l), _] _
  by_cases hk1 : kwI (hdw l.tail.tail.tail) < 1
  ·rw [he1, rw_bad (by omega)]
   refine WA ?_
   refine zb rfl ?_
   refine ZZ ?_
   refine WA ?_
   exact zu (us := [.a [.c (T []), .c (I 0), .c (I 0), .c (I 0), .c (T []), .c (T []), .c (T []), .c (I 0), .c (T []), .c (I 0)], .c (B false)]) [] (fun _ => .t [.a [.c (T []), .c (I 0), .c (I 0), .c (I 0), .c (T []), .c (T []), .c (T []), .c (I 0), .c (T []), .c (I 0)], .c (B false)]) (fun _ => []) (.cella (n := 10) rfl (by kernel_rfl) (Cells.box rfl) (by simp) (by (try simp only [nm, putL, Nat.reduceAdd, cellsOf, cvOf]) <;> rfl) (.tmp rfl .nil)) (by decide) (ZNK rfl) (fun _ => .tL (.cons (.aL (C0 rfl)) (.cons (.c rfl) .nil))) ZCH (fun _ => ⟨⟨[], 0, 0, 0, [], [], [], 0, [], 0⟩, rfl, fun y hy => (by cases hy), rfl⟩)
  ·have hl4 : ∀ w ∈ t4w l, w.length ≤ 1000000 := tlw (tlw (tlw (tlw hlw)))
   generalize hkk : kwI (hdw l.tail.tail.tail) = k at hk1 hbd ⊢
   refine WA ?_
   refine za rfl ?_
   refine ZZ ?_
   refine WR ?_
   refine zf rfl (zc false (fun _ => usesof_v k) rfl .fn rfl (by decide) (by kernel_rfl) rfl (fun _ => C0 rfl) (by simp)) ?_
   rintro _ _ ⟨_, _, _, ⟨rfl, rfl⟩, hF, hH⟩
   rw [show usA k = .a [.c (B (uP k)), .c (B (uJ k)), .c (B (uS k)), .c (B (uU k)), .c (I (uM k))] from rfl] at hF
   (refine NST hF hH ?_; clear hF hH; rintro rfl rfl)
   refine WE ?_
   refine WA ?_
   refine zA1 (fun F H => ∃ (vz : Value) (x1 : List UInt8) (l1 : List (List UInt8)) (c1 : Bool), stN (uP k) ((t4w l), (b4 l)) = (x1, l1, c1) ∧ (∀ w ∈ l1, w.length ≤ 1000000) ∧ F = [(2, .p 0 0 0), (6, .p 1 0 0), (7, .p 2 0 0), (8, .p 3 0 0)] ∧ H = [.box [.c (T []), .c (I 0), .c (I 0), .c (I 0), .c (T []), .c (T []), .c (T []), .c (I 0), .c (T []), .c (I 0)], wbx vz l1 c1, .box [.c (T (hdw l)), .c (I (nmw l.tail)), .c (I (nmw l.tail.tail)), .c (I k), .c (T x1), .c (T []), .c (T []), .c (I 0), .c (T []), .c (I 0)], .box [.c (B (uP k)), .c (B (uJ k)), .c (B (uS k)), .c (B (uU k)), .c (I (uM k))]]) ?_ ?_ zq2
   ·cases hq : uP k with
    | true =>
     refine zb rfl ?_
     refine WR ?_
     refine zf rfl (zX [1] (fun _ => [wbx va4 ((t4w l)) ((b4 l))]) false (fun _ => next_v va4 ((t4w l)) ((b4 l))) rfl .fn rfl (by decide) (by kernel_rfl) rfl (fun _g => .cons (.p rfl) .nil) (by decide) ZCH (by simp) (.inl ⟨_, hE, rfl⟩)) ?_
     rintro F1 H1 ⟨_, _, _, _, ⟨vn, rfl, rfl⟩, hF, hH⟩
     (refine NSU hF hH ?_; clear hF hH; rintro rfl rfl)
     refine WE ?_
     exact zp [some 0, some 1, some 2, some 3] (fun _ => [(2, .p 0 0 0), (6, .p 1 0 0), (7, .p 2 0 0), (8, .p 3 0 0)]) (fun _ => [.box [.c (T []), .c (I 0), .c (I 0), .c (I 0), .c (T []), .c (T []), .c (T []), .c (I 0), .c (T []), .c (I 0)], wbx vn (t4w l).tail (or (b4 l) (t4w l).isEmpty), .box [.c (T (hdw l)), .c (I (nmw l.tail)), .c (I (nmw l.tail.tail)), .c (I k), .c (T (hdw (t4w l))), .c (T []), .c (T []), .c (I 0), .c (T []), .c (I 0)], .box [.c (B (true)), .c (B (uJ k)), .c (B (uS k)), .c (B (uU k)), .c (I (uM k))]]) (by decide) (ZNL hE) ZCF ZCH (fun _ => ⟨vn, _, _, _, rfl, tlw hl4, rfl, rfl⟩)
    | false =>
     refine za rfl ?_
     refine ZZ ?_
     exact zp [some 0, some 1, some 2, some 3] (fun _ => [(2, .p 0 0 0), (6, .p 1 0 0), (7, .p 2 0 0), (8, .p 3 0 0)]) (fun _ => [.box [.c (T []), .c (I 0), .c (I 0), .c (I 0), .c (T []), .c (T []), .c (T []), .c (I 0), .c (T []), .c (I 0)], wbx va4 (t4w l) (b4 l), .box [.c (T (hdw l)), .c (I (nmw l.tail)), .c (I (nmw l.tail.tail)), .c (I k), .c (T []), .c (T []), .c (T []), .c (I 0), .c (T []), .c (I 0)], .box [.c (B (false)), .c (B (uJ k)), .c (B (uS k)), .c (B (uU k)), .c (I (uM k))]]) (by decide) (ZNL hE) ZCF ZCH (fun _ => ⟨va4, _, _, _, rfl, hl4, rfl, rfl⟩)
   rintro F H ⟨vx1, x1, l1, c1, e1, hl5, rfl, rfl⟩
   refine WA ?_
   refine zA1 (fun F H => ∃ (vz : Value) (x2 : List UInt8) (l2 : List (List UInt8)) (c2 : Bool), stN (uJ k) (l1, c1) = (x2, l2, c2) ∧ (∀ w ∈ l2, w.length ≤ 1000000) ∧ F = [(2, .p 0 0 0), (6, .p 1 0 0), (7, .p 2 0 0), (8, .p 3 0 0)] ∧ H = [.box [.c (T []), .c (I 0), .c (I 0), .c (I 0), .c (T []), .c (T []), .c (T []), .c (I 0), .c (T []), .c (I 0)], wbx vz l2 c2, .box [.c (T (hdw l)), .c (I (nmw l.tail)), .c (I (nmw l.tail.tail)), .c (I k), .c (T x1), .c (T x2), .c (T []), .c (I 0), .c (T []), .c (I 0)], .box [.c (B (uP k)), .c (B (uJ k)), .c (B (uS k)), .c (B (uU k)), .c (I (uM k))]]) ?_ ?_ zq2
   ·cases hq : uJ k with
    | true =>
     refine zb rfl ?_
     refine WR ?_
     refine zf rfl (zX [1] (fun _ => [wbx vx1 (l1) (c1)]) false (fun _ => next_v vx1 (l1) (c1)) rfl .fn rfl (by decide) (by kernel_rfl) rfl (fun _g => .cons (.p rfl) .nil) (by decide) ZCH (by simp) (.inl ⟨_, hE, rfl⟩)) ?_
     rintro F1 H1 ⟨_, _, _, _, ⟨vn, rfl, rfl⟩, hF, hH⟩
     (refine NSU hF hH ?_; clear hF hH; rintro rfl rfl)
     refine WE ?_
     exact zp [some 0, some 1, some 2, some 3] (fun _ => [(2, .p 0 0 0), (6, .p 1 0 0), (7, .p 2 0 0), (8, .p 3 0 0)]) (fun _ => [.box [.c (T []), .c (I 0), .c (I 0), .c (I 0), .c (T []), .c (T []), .c (T []), .c (I 0), .c (T []), .c (I 0)], wbx vn l1.tail (or c1 l1.isEmpty), .box [.c (T (hdw l)), .c (I (nmw l.tail)), .c (I (nmw l.tail.tail)), .c (I k), .c (T x1), .c (T (hdw l1)), .c (T []), .c (I 0), .c (T []), .c (I 0)], .box [.c (B (uP k)), .c (B (true)), .c (B (uS k)), .c (B (uU k)), .c (I (uM k))]]) (by decide) (ZNL hE) ZCF ZCH (fun _ => ⟨vn, _, _, _, rfl, tlw hl5, rfl, rfl⟩)
    | false =>
     refine za rfl ?_
     refine ZZ ?_
     exact zp [some 0, some 1, some 2, some 3] (fun _ => [(2, .p 0 0 0), (6, .p 1 0 0), (7, .p 2 0 0), (8, .p 3 0 0)]) (fun _ => [.box [.c (T []), .c (I 0), .c (I 0), .c (I 0), .c (T []), .c (T []), .c (T []), .c (I 0), .c (T []), .c (I 0)], wbx vx1 l1 c1, .box [.c (T (hdw l)), .c (I (nmw l.tail)), .c (I (nmw l.tail.tail)), .c (I k), .c (T x1), .c (T []), .c (T []), .c (I 0), .c (T []), .c (I 0)], .box [.c (B (uP k)), .c (B (false)), .c (B (uS k)), .c (B (uU k)), .c (I (uM k))]]) (by decide) (ZNL hE) ZCF ZCH (fun _ => ⟨vx1, _, _, _, rfl, hl5, rfl, rfl⟩)
   rintro F H ⟨vx2, x2, l2, c2, e2, hl6, rfl, rfl⟩
   refine WA ?_
   refine zA1 (fun F H => ∃ (vz : Value) (x3 : List UInt8) (l3 : List (List UInt8)) (c3 : Bool), stN (uS k) (l2, c2) = (x3, l3, c3) ∧ (∀ w ∈ l3, w.length ≤ 1000000) ∧ F = [(2, .p 0 0 0), (6, .p 1 0 0), (7, .p 2 0 0), (8, .p 3 0 0)] ∧ H = [.box [.c (T []), .c (I 0), .c (I 0), .c (I 0), .c (T []), .c (T []), .c (T []), .c (I 0), .c (T []), .c (I 0)], wbx vz l3 c3, .box [.c (T (hdw l)), .c (I (nmw l.tail)), .c (I (nmw l.tail.tail)), .c (I k), .c (T x1), .c (T x2), .c (T x3), .c (I 0), .c (T []), .c (I 0)], .box [.c (B (uP k)), .c (B (uJ k)), .c (B (uS k)), .c (B (uU k)), .c (I (uM k))]]) ?_ ?_ zq2
   ·cases hq : uS k with
    | true =>
     refine zb rfl ?_
     refine WR ?_
     refine zf rfl (zX [1] (fun _ => [wbx vx2 (l2) (c2)]) false (fun _ => next_v vx2 (l2) (c2)) rfl .fn rfl (by decide) (by kernel_rfl) rfl (fun _g => .cons (.p rfl) .nil) (by decide) ZCH (by simp) (.inl ⟨_, hE, rfl⟩)) ?_
     rintro F1 H1 ⟨_, _, _, _, ⟨vn, rfl, rfl⟩, hF, hH⟩
     (refine NSU hF hH ?_; clear hF hH; rintro rfl rfl)
     refine WE ?_
     exact zp [some 0, some 1, some 2, some 3] (fun _ => [(2, .p 0 0 0), (6, .p 1 0 0), (7, .p 2 0 0), (8, .p 3 0 0)]) (fun _ => [.box [.c (T []), .c (I 0), .c (I 0), .c (I 0), .c (T []), .c (T []), .c (T []), .c (I 0), .c (T []), .c (I 0)], wbx vn l2.tail (or c2 l2.isEmpty), .box [.c (T (hdw l)), .c (I (nmw l.tail)), .c (I (nmw l.tail.tail)), .c (I k), .c (T x1), .c (T x2), .c (T (hdw l2)), .c (I 0), .c (T []), .c (I 0)], .box [.c (B (uP k)), .c (B (uJ k)), .c (B (true)), .c (B (uU k)), .c (I (uM k))]]) (by decide) (ZNL hE) ZCF ZCH (fun _ => ⟨vn, _, _, _, rfl, tlw hl6, rfl, rfl⟩)
    | false =>
     refine za rfl ?_
     refine ZZ ?_
     exact zp [some 0, some 1, some 2, some 3] (fun _ => [(2, .p 0 0 0), (6, .p 1 0 0), (7, .p 2 0 0), (8, .p 3 0 0)]) (fun _ => [.box [.c (T []), .c (I 0), .c (I 0), .c (I 0), .c (T []), .c (T []), .c (T []), .c (I 0), .c (T []), .c (I 0)], wbx vx2 l2 c2, .box [.c (T (hdw l)), .c (I (nmw l.tail)), .c (I (nmw l.tail.tail)), .c (I k), .c (T x1), .c (T x2), .c (T []), .c (I 0), .c (T []), .c (I 0)], .box [.c (B (uP k)), .c (B (uJ k)), .c (B (false)), .c (B (uU k)), .c (I (uM k))]]) (by decide) (ZNL hE) ZCF ZCH (fun _ => ⟨vx2, _, _, _, rfl, hl6, rfl, rfl⟩)
   rintro F H ⟨vx3, x3, l3, c3, e3, hl7, rfl, rfl⟩
   refine WA ?_
   refine zA1 (fun F H => ∃ (vz : Value) (x4 : Int) (l4 : List (List UInt8)) (c4 : Bool), stM (decide (0 < uM k)) (l3, c3) = (x4, l4, c4) ∧ (∀ w ∈ l4, w.length ≤ 1000000) ∧ F = [(2, .p 0 0 0), (6, .p 1 0 0), (7, .p 2 0 0), (8, .p 3 0 0)] ∧ H = [.box [.c (T []), .c (I 0), .c (I 0), .c (I 0), .c (T []), .c (T []), .c (T []), .c (I 0), .c (T []), .c (I 0)], wbx vz l4 c4, .box [.c (T (hdw l)), .c (I (nmw l.tail)), .c (I (nmw l.tail.tail)), .c (I k), .c (T x1), .c (T x2), .c (T x3), .c (I x4), .c (T []), .c (I 0)], .box [.c (B (uP k)), .c (B (uJ k)), .c (B (uS k)), .c (B (uU k)), .c (I (uM k))]]) ?_ ?_ zq2
   ·refine zw rfl (fun hq => ?_) (fun hq => ?_)
    ·rw [decide_eq_true hq]
     refine WR ?_
     refine zf rfl (zX [1] (fun _ => [wbx vx3 (l3) (c3)]) false (fun _ => nnum_v vx3 (l3) (c3) (hl7)) rfl .fn rfl (by decide) (by kernel_rfl) rfl (fun _g => .cons (.p rfl) .nil) (by decide) ZCH (by simp) (.inl ⟨_, hE, rfl⟩)) ?_
     rintro F1 H1 ⟨_, _, _, _, ⟨vn, rfl, rfl⟩, hF, hH⟩
     (refine NSU hF hH ?_; clear hF hH; rintro rfl rfl)
     refine WE ?_
     exact zp [some 0, some 1, some 2, some 3] (fun _ => [(2, .p 0 0 0), (6, .p 1 0 0), (7, .p 2 0 0), (8, .p 3 0 0)]) (fun _ => [.box [.c (T []), .c (I 0), .c (I 0), .c (I 0), .c (T []), .c (T []), .c (T []), .c (I 0), .c (T []), .c (I 0)], wbx vn l3.tail (or c3 (nbw l3)), .box [.c (T (hdw l)), .c (I (nmw l.tail)), .c (I (nmw l.tail.tail)), .c (I k), .c (T x1), .c (T x2), .c (T x3), .c (I (nmw l3)), .c (T []), .c (I 0)], .box [.c (B (uP k)), .c (B (uJ k)), .c (B (uS k)), .c (B (uU k)), .c (I (uM k))]]) (by decide) (ZNL hE) ZCF ZCH (fun _ => ⟨vn, _, _, _, rfl, tlw hl7, rfl, rfl⟩)
    ·rw [decide_eq_false hq]
     refine ZZ ?_
     exact zp [some 0, some 1, some 2, some 3] (fun _ => [(2, .p 0 0 0), (6, .p 1 0 0), (7, .p 2 0 0), (8, .p 3 0 0)]) (fun _ => [.box [.c (T []), .c (I 0), .c (I 0), .c (I 0), .c (T []), .c (T []), .c (T []), .c (I 0), .c (T []), .c (I 0)], wbx vx3 l3 c3, .box [.c (T (hdw l)), .c (I (nmw l.tail)), .c (I (nmw l.tail.tail)), .c (I k), .c (T x1), .c (T x2), .c (T x3), .c (I 0), .c (T []), .c (I 0)], .box [.c (B (uP k)), .c (B (uJ k)), .c (B (uS k)), .c (B (uU k)), .c (I (uM k))]]) (by decide) (ZNL hE) ZCF ZCH (fun _ => ⟨vx3, _, _, _, rfl, hl7, rfl, rfl⟩)
   rintro F H ⟨vx4, x4, l4, c4, e4, hl8, rfl, rfl⟩
   refine WA ?_
   refine zA1 (fun F H => ∃ (vz : Value) (x5 : List UInt8) (x6 : Int) (l5 l6 : List (List UInt8)) (c5 c6 : Bool), stN (uU k) (l4, c4) = (x5, l5, c5) ∧ stM (uU k) (l5, c5) = (x6, l6, c6) ∧ F = [(2, .p 0 0 0), (6, .p 1 0 0), (7, .p 2 0 0)] ∧ H = [.box [.c (T []), .c (I 0), .c (I 0), .c (I 0), .c (T []), .c (T []), .c (T []), .c (I 0), .c (T []), .c (I 0)], wbx vz l6 c6, .box [.c (T (hdw l)), .c (I (nmw l.tail)), .c (I (nmw l.tail.tail)), .c (I k), .c (T x1), .c (T x2), .c (T x3), .c (I x4), .c (T x5), .c (I x6)]]) ?_ ?_ zq2
   ·cases hq : uU k with
    | true =>
     refine zb rfl ?_
     refine WR ?_
     refine zf rfl (zX [1] (fun _ => [wbx vx4 (l4) (c4)]) false (fun _ => next_v vx4 (l4) (c4)) rfl .fn rfl (by decide) (by kernel_rfl) rfl (fun _g => .cons (.p rfl) .nil) (by decide) ZCH (by simp) (.inl ⟨_, hE, rfl⟩)) ?_
     rintro F1 H1 ⟨_, _, _, _, ⟨vn, rfl, rfl⟩, hF, hH⟩
     (refine NSU hF hH ?_; clear hF hH; rintro rfl rfl)
     refine WO ?_
     refine zf rfl (zX [1] (fun _ => [wbx vn (l4.tail) (or c4 l4.isEmpty)]) false (fun _ => nnum_v vn (l4.tail) (or c4 l4.isEmpty) (tlw hl8)) rfl .fn rfl (by decide) (by kernel_rfl) rfl (fun _g => .cons (.p rfl) .nil) (by decide) ZCH (by simp) (.inl ⟨_, hE, rfl⟩)) ?_
     rintro F1 H1 ⟨_, _, _, _, ⟨vo, rfl, rfl⟩, hF, hH⟩
     (refine NSU hF hH ?_; clear hF hH; rintro rfl rfl)
     refine WE ?_
     exact zp [some 0, some 1, some 2] (fun _ => [(2, .p 0 0 0), (6, .p 1 0 0), (7, .p 2 0 0)]) (fun _ => [.box [.c (T []), .c (I 0), .c (I 0), .c (I 0), .c (T []), .c (T []), .c (T []), .c (I 0), .c (T []), .c (I 0)], wbx vo l4.tail.tail (or (or c4 l4.isEmpty) (nbw l4.tail)), .box [.c (T (hdw l)), .c (I (nmw l.tail)), .c (I (nmw l.tail.tail)), .c (I k), .c (T x1), .c (T x2), .c (T x3), .c (I x4), .c (T (hdw l4)), .c (I (nmw l4.tail))]]) (by decide) (ZNL hE) ZCF ZCH (fun _ => ⟨vo, _, _, _, _, _, _, rfl, rfl, rfl, rfl⟩)
    | false =>
     refine za rfl ?_
     refine ZZ ?_
     exact zp [some 0, some 1, some 2] (fun _ => [(2, .p 0 0 0), (6, .p 1 0 0), (7, .p 2 0 0)]) (fun _ => [.box [.c (T []), .c (I 0), .c (I 0), .c (I 0), .c (T []), .c (T []), .c (T []), .c (I 0), .c (T []), .c (I 0)], wbx vx4 l4 c4, .box [.c (T (hdw l)), .c (I (nmw l.tail)), .c (I (nmw l.tail.tail)), .c (I k), .c (T x1), .c (T x2), .c (T x3), .c (I x4), .c (T []), .c (I 0)]]) (by decide) (ZNL hE) ZCF ZCH (fun _ => ⟨vx4, _, _, _, _, _, _, rfl, rfl, rfl, rfl⟩)
   rintro F H ⟨vx5, x5, x6, l5, l6, c5, c6, e5, e6, rfl, rfl⟩
   obtain ⟨f1, f2⟩ := rk_all l hkk (by omega) (by omega) e1 e2 e3 e4 e5 e6
   rw [he1, ← f1]
   clear f1 e1 e2 e3 e4 e5 e6
   cases c6 with
   | true =>
    refine ZZ ?_
    refine zk [(0, none), (1, none), (2, none), (3, none), (4, none), (5, none), (6, none), (7, none), (8, none), (9, none), (10, none), (11, none), (12, none), (13, none), (14, some [7, 8, 9, 10, 11, 12, 13]), (15, none)] zS (by kernel_rfl) ?_
    iterate 14 refine WX2 ?_
    first | refine ZF rfl (Zsto (KS (t := 39) rfl)) (ze (by first | exact zp1 rfl rfl rfl rfl | exact zR rfl rfl rfl (zR2 rfl rfl) rfl) (ze (by first | exact zp1 rfl rfl rfl rfl | exact zR rfl rfl rfl (rd_nil rfl rfl) rfl | exact zR rfl rfl rfl (zp3 rfl rfl) rfl) (ze (by first | exact zp1 rfl rfl rfl rfl | exact zR rfl rfl rfl (ZX (KF (t := 193) (f := 0) rfl rfl)) rfl) (ze (by first | exact zp1 rfl rfl rfl rfl | exact zR rfl rfl rfl (ZL (KK (t := 61) rfl)) rfl) (ze (by first | exact zp1 rfl rfl rfl rfl | exact zR rfl rfl rfl (Zlen (KE (t := 61) rfl)) rfl) (ze (by first | exact zp1 rfl rfl rfl rfl | exact zR rfl rfl rfl (Zeql) rfl) (ze (by first | exact zz rfl rfl rfl (zs1 rfl rfl rfl) rfl | exact zz rfl rfl rfl (zt1 rfl rfl rfl) rfl) (zm)))))))) ?_ | refine ZF rfl (Zstr (KS (t := 39) rfl)) (ze (by first | exact zp1 rfl rfl rfl rfl | exact zR rfl rfl rfl (zR2 rfl rfl) rfl) (ze (by first | exact zp1 rfl rfl rfl rfl | exact zR rfl rfl rfl (rd_nil rfl rfl) rfl | exact zR rfl rfl rfl (zp3 rfl rfl) rfl) (ze (by first | exact zp1 rfl rfl rfl rfl | exact zR rfl rfl rfl (ZX (KF (t := 193) (f := 0) rfl rfl)) rfl) (ze (by first | exact zp1 rfl rfl rfl rfl | exact zR rfl rfl rfl (ZL (KK (t := 61) rfl)) rfl) (ze (by first | exact zp1 rfl rfl rfl rfl | exact zR rfl rfl rfl (Zlen (KE (t := 61) rfl)) rfl) (ze (by first | exact zp1 rfl rfl rfl rfl | exact zR rfl rfl rfl (Zeql) rfl) (ze (by first | exact zz rfl rfl rfl (zs1 rfl rfl rfl) rfl | exact zz rfl rfl rfl (zt1 rfl rfl rfl) rfl) (zm)))))))) ?_
    refine WQ ?_
    exact zu (us := [.a [.c (T (hdw l)), .c (I (nmw l.tail)), .c (I (nmw l.tail.tail)), .c (I k), .c (T x1), .c (T x2), .c (T x3), .c (I x4), .c (T x5), .c (I x6)], .c (B false)]) [] (fun _ => .t [.a [.c (T (hdw l)), .c (I (nmw l.tail)), .c (I (nmw l.tail.tail)), .c (I k), .c (T x1), .c (T x2), .c (T x3), .c (I x4), .c (T x5), .c (I x6)], .c (B false)]) (fun _ => []) (.cella (n := 10) rfl (by kernel_rfl) (Cells.box rfl) (by simp) (by (try simp only [nm, putL, Nat.reduceAdd, cellsOf, cvOf]) <;> rfl) (.tmp rfl .nil)) (by decide) (ZNK rfl) (fun _ => .tL (.cons (.aL (C0 rfl)) (.cons (.c rfl) .nil))) ZCH (fun _ => ⟨⟨hdw l, nmw l.tail, nmw l.tail.tail, k, x1, x2, x3, x4, x5, x6⟩, rfl, f2, rfl⟩)
   | false =>
    cases l6 with
    | nil =>
     refine ZZ ?_
     refine zk [(0, none), (1, none), (2, none), (3, none), (4, none), (5, none), (6, none), (7, none), (8, none), (9, none), (10, none), (11, none), (12, none), (13, none), (14, some [7, 8, 9, 10, 11, 12, 13]), (15, none)] zS (by kernel_rfl) ?_
     iterate 14 refine WX2 ?_
     first | refine ZF rfl (Zsto (KS (t := 39) rfl)) (ze (by first | exact zp1 rfl rfl rfl rfl | exact zR rfl rfl rfl (zR2 rfl rfl) rfl) (ze (by first | exact zp1 rfl rfl rfl rfl | exact zR rfl rfl rfl (rd_nil rfl rfl) rfl | exact zR rfl rfl rfl (zp3 rfl rfl) rfl) (ze (by first | exact zp1 rfl rfl rfl rfl | exact zR rfl rfl rfl (ZX (KF (t := 193) (f := 0) rfl rfl)) rfl) (ze (by first | exact zp1 rfl rfl rfl rfl | exact zR rfl rfl rfl (ZL (KK (t := 61) rfl)) rfl) (ze (by first | exact zp1 rfl rfl rfl rfl | exact zR rfl rfl rfl (Zlen (KE (t := 61) rfl)) rfl) (ze (by first | exact zp1 rfl rfl rfl rfl | exact zR rfl rfl rfl (Zeql) rfl) (ze (by first | exact zz rfl rfl rfl (zs1 rfl rfl rfl) rfl | exact zz rfl rfl rfl (zt1 rfl rfl rfl) rfl) (zm)))))))) ?_ | refine ZF rfl (Zstr (KS (t := 39) rfl)) (ze (by first | exact zp1 rfl rfl rfl rfl | exact zR rfl rfl rfl (zR2 rfl rfl) rfl) (ze (by first | exact zp1 rfl rfl rfl rfl | exact zR rfl rfl rfl (rd_nil rfl rfl) rfl | exact zR rfl rfl rfl (zp3 rfl rfl) rfl) (ze (by first | exact zp1 rfl rfl rfl rfl | exact zR rfl rfl rfl (ZX (KF (t := 193) (f := 0) rfl rfl)) rfl) (ze (by first | exact zp1 rfl rfl rfl rfl | exact zR rfl rfl rfl (ZL (KK (t := 61) rfl)) rfl) (ze (by first | exact zp1 rfl rfl rfl rfl | exact zR rfl rfl rfl (Zlen (KE (t := 61) rfl)) rfl) (ze (by first | exact zp1 rfl rfl rfl rfl | exact zR rfl rfl rfl (Zeql) rfl) (ze (by first | exact zz rfl rfl rfl (zs1 rfl rfl rfl) rfl | exact zz rfl rfl rfl (zt1 rfl rfl rfl) rfl) (zm)))))))) ?_
     refine WQ ?_
     exact zu (us := [.a [.c (T (hdw l)), .c (I (nmw l.tail)), .c (I (nmw l.tail.tail)), .c (I k), .c (T x1), .c (T x2), .c (T x3), .c (I x4), .c (T x5), .c (I x6)], .c (B true)]) [] (fun _ => .t [.a [.c (T (hdw l)), .c (I (nmw l.tail)), .c (I (nmw l.tail.tail)), .c (I k), .c (T x1), .c (T x2), .c (T x3), .c (I x4), .c (T x5), .c (I x6)], .c (B true)]) (fun _ => []) (.cella (n := 10) rfl (by kernel_rfl) (Cells.box rfl) (by simp) (by (try simp only [nm, putL, Nat.reduceAdd, cellsOf, cvOf]) <;> rfl) (.tmp rfl .nil)) (by decide) (ZNK rfl) (fun _ => .tL (.cons (.aL (C0 rfl)) (.cons (.c rfl) .nil))) ZCH (fun _ => ⟨⟨hdw l, nmw l.tail, nmw l.tail.tail, k, x1, x2, x3, x4, x5, x6⟩, rfl, f2, rfl⟩)
    | cons a0 r0 =>
     have hne : ¬ ((wR (a0 :: r0)).length : Int) = 0 := by simp; omega
     refine ZZ ?_
     refine zk [(0, none), (1, none), (2, none), (3, none), (4, none), (5, none), (6, none), (7, none), (8, none), (9, none), (10, none), (11, none), (12, none), (13, none), (14, some [7, 8, 9, 10, 11, 12, 13]), (15, none)] zS (by kernel_rfl) ?_
     iterate 14 refine WX2 ?_
     first | refine ZF rfl (Zsto (KS (t := 39) rfl)) (ze (by first | exact zp1 rfl rfl rfl rfl | exact zR rfl rfl rfl (zR2 rfl rfl) rfl) (ze (by first | exact zp1 rfl rfl rfl rfl | exact zR rfl rfl rfl (rd_nil rfl rfl) rfl | exact zR rfl rfl rfl (zp3 rfl rfl) rfl) (ze (by first | exact zp1 rfl rfl rfl rfl | exact zR rfl rfl rfl (ZX (KF (t := 193) (f := 0) rfl rfl)) rfl) (ze (by first | exact zp1 rfl rfl rfl rfl | exact zR rfl rfl rfl (ZL (KK (t := 61) rfl)) rfl) (ze (by first | exact zp1 rfl rfl rfl rfl | exact zR rfl rfl rfl (Zlen (KE (t := 61) rfl)) rfl) (ze (by first | exact zp1 rfl rfl rfl rfl | exact zR rfl rfl rfl (Zeql) rfl) (ze (by first | exact zz rfl rfl rfl (zs1 rfl rfl rfl) rfl | exact zz rfl rfl rfl (zt1 rfl rfl rfl) rfl) (zm)))))))) ?_ | refine ZF rfl (Zstr (KS (t := 39) rfl)) (ze (by first | exact zp1 rfl rfl rfl rfl | exact zR rfl rfl rfl (zR2 rfl rfl) rfl) (ze (by first | exact zp1 rfl rfl rfl rfl | exact zR rfl rfl rfl (rd_nil rfl rfl) rfl | exact zR rfl rfl rfl (zp3 rfl rfl) rfl) (ze (by first | exact zp1 rfl rfl rfl rfl | exact zR rfl rfl rfl (ZX (KF (t := 193) (f := 0) rfl rfl)) rfl) (ze (by first | exact zp1 rfl rfl rfl rfl | exact zR rfl rfl rfl (ZL (KK (t := 61) rfl)) rfl) (ze (by first | exact zp1 rfl rfl rfl rfl | exact zR rfl rfl rfl (Zlen (KE (t := 61) rfl)) rfl) (ze (by first | exact zp1 rfl rfl rfl rfl | exact zR rfl rfl rfl (Zeql) rfl) (ze (by first | exact zz rfl rfl rfl (zs1 rfl rfl rfl) rfl | exact zz rfl rfl rfl (zt1 rfl rfl rfl) rfl) (zm)))))))) ?_
     refine WQ ?_
     exact zu (us := [.a [.c (T (hdw l)), .c (I (nmw l.tail)), .c (I (nmw l.tail.tail)), .c (I k), .c (T x1), .c (T x2), .c (T x3), .c (I x4), .c (T x5), .c (I x6)], .c (B false)]) [] (fun _ => .t [.a [.c (T (hdw l)), .c (I (nmw l.tail)), .c (I (nmw l.tail.tail)), .c (I k), .c (T x1), .c (T x2), .c (T x3), .c (I x4), .c (T x5), .c (I x6)], .c (B false)]) (fun _ => []) (.cella (n := 10) rfl (by kernel_rfl) (Cells.box rfl) (by simp) (by (try simp only [nm, putL, Nat.reduceAdd, cellsOf, cvOf]) <;> rfl) (.tmp rfl .nil)) (by decide) (ZNK rfl) (fun _ => .tL (.cons (.aL (C0 rfl)) (.cons (.c rfl) .nil))) ZCH (fun _ => ⟨⟨hdw l, nmw l.tail, nmw l.tail.tail, k, x1, x2, x3, x4, x5, x6⟩, rfl, f2, rfl⟩)
end Go.Proofs.YtlhbfcfjepbhpaaGreatDoor
