/- The document reads a line of a note, by value. -/
import Derived.Test.YtlhbfcfjepbhpaaGreatDoorQaz
import Derived.Test.YtlhbfcfjepbhpaaGreatDoorQbd
set_option linter.unusedSimpArgs false
set_option linter.unusedVariables false
namespace Go.Proofs.YtlhbfcfjepbhpaaGreatDoor
open Go Go.RowKit
abbrev hdw (l : List (List UInt8)) : List UInt8 := l.headD []
abbrev nmw (l : List (List UInt8)) : Int := (numF (l.headD [])).getD 0
abbrev nbw (l : List (List UInt8)) : Bool := (numF (l.headD [])).isNone
theorem ze3 : numF [] = none := rfl
def b4 (l : List (List UInt8)) : Bool := (((false || l.isEmpty) || nbw l.tail) || nbw l.tail.tail) || l.tail.tail.tail.isEmpty
theorem rw_4 (l : List (List UInt8)) : (b4 l = true → rwF l = none) ∧ (b4 l = false → rwF l = argF (hdw l) (nmw l.tail) (nmw l.tail.tail) (kwI (hdw l.tail.tail.tail)) l.tail.tail.tail.tail) := by
 unfold b4
 rcases l with _ | ⟨a, _ | ⟨b, _ | ⟨c, _ | ⟨d, r⟩⟩⟩⟩
 ·exact ⟨fun _ => rfl, fun h => by simp at h⟩
 ·exact ⟨fun _ => rfl, fun h => by simp [ze3] at h⟩
 ·exact ⟨fun _ => rfl, fun h => by simp [ze3] at h⟩
 ·exact ⟨fun _ => rfl, fun h => by simp at h⟩
 ·show (_ → (match numF b, numF c with | some no, some a2 => argF a no a2 (kwI d) r | _, _ => none) = none) ∧ (_ → (match numF b, numF c with | some no, some a2 => argF a no a2 (kwI d) r | _, _ => none) = argF a ((numF b).getD 0) ((numF c).getD 0) (kwI d) r)
  cases hb : numF b <;> cases hc : numF c <;> simp [hb, hc]
def eb (bad : Bool) (l : List (List UInt8)) : Bool := !bad && l.isEmpty
section
variable (l : List (List UInt8))
abbrev t4w : List (List UInt8) := l.tail.tail.tail.tail
abbrev nt0 : Nt := ⟨hdw l, nmw l.tail, nmw l.tail.tail, kwI (hdw l.tail.tail.tail), [], [], [], 0, [], 0⟩
theorem rw_bad {l : List (List UInt8)} (h : ¬ (1 ≤ kwI (hdw l.tail.tail.tail))) : rwF l = none := by
 obtain ⟨h1, h2⟩ := rw_4 l
 cases hb : b4 l with
 | true => exact h1 hb
 | false =>
  rw [h2 hb]
  unfold argF
  repeat rw [if_neg (by omega)]
theorem rk_fin {x : Nt} {bad : Bool} {r : List (List UInt8)} (b : Bool) (h1 : b4 l = true → bad = true) (h2 : b4 l = false → (eb bad r = (argF (hdw l) (nmw l.tail) (nmw l.tail.tail) (kwI (hdw l.tail.tail.tail)) (t4w l)).isSome ∧ ∀ y, argF (hdw l) (nmw l.tail) (nmw l.tail.tail) (kwI (hdw l.tail.tail.tail)) (t4w l) = some y → x = y)) : eb bad r = (rwF l).isSome ∧ ∀ y, rwF l = some y → x = y := by
 obtain ⟨h3, h4⟩ := rw_4 l
 cases hb : b4 l with
 | true =>
  rw [h3 hb, h1 hb]
  exact ⟨rfl, fun y h => by cases h⟩
 | false => rw [h4 hb]; exact h2 hb
theorem rk_1 (hk : kwI (hdw l.tail.tail.tail) = 1) : eb (((b4 l || (t4w l).isEmpty) || (t4w l).tail.isEmpty) || nbw (t4w l).tail.tail) (t4w l).tail.tail.tail = (rwF l).isSome ∧ ∀ y, rwF l = some y → ({ nt0 l with pr := hdw (t4w l), jb := hdw (t4w l).tail, n := nmw (t4w l).tail.tail } : Nt) = y := by
 refine rk_fin l false (fun h => by rw [h]; rfl) fun h => ?_
 rw [h]
 unfold nt0
 rw [hk]
 unfold t4w
 generalize l.tail.tail.tail.tail = q
 rcases q with _ | ⟨a, _ | ⟨b, _ | ⟨c, _ | ⟨d, r⟩⟩⟩⟩
 ·simp [eb, argF]
 ·simp [eb, argF]
 ·simp [eb, argF, ze3]
 ·cases hn : numF c <;> simp [eb, argF, hn, nmw]
 ·cases hn : numF c <;> simp [eb, argF, hn, nmw]
theorem rk_26 (k : Int) (hk2 : k = 2 ∨ k = 6) (hk : kwI (hdw l.tail.tail.tail) = k) : eb ((b4 l || (t4w l).isEmpty) || nbw (t4w l).tail) (t4w l).tail.tail = (rwF l).isSome ∧ ∀ y, rwF l = some y → ({ nt0 l with pr := hdw (t4w l), n := nmw (t4w l).tail } : Nt) = y := by
 refine rk_fin l false (fun h => by rw [h]; rfl) fun h => ?_
 rw [h]
 unfold nt0
 rw [hk]
 unfold t4w
 generalize l.tail.tail.tail.tail = q
 rcases hk2 with rfl | rfl
 all_goals
  rcases q with _ | ⟨a, _ | ⟨b, _ | ⟨c, r⟩⟩⟩
  ·simp [eb, argF]
  ·simp [eb, argF, ze3]
  ·cases hn : numF b <;> simp [eb, argF, hn, nmw]
  ·cases hn : numF b <;> simp [eb, argF, hn, nmw]
theorem rk_34 (k : Int) (hk2 : k = 3 ∨ k = 4) (hk : kwI (hdw l.tail.tail.tail) = k) : eb (b4 l || (t4w l).isEmpty) (t4w l).tail = (rwF l).isSome ∧ ∀ y, rwF l = some y → ({ nt0 l with pr := hdw (t4w l) } : Nt) = y := by
 refine rk_fin l false (fun h => by rw [h]; rfl) fun h => ?_
 rw [h]
 unfold nt0
 rw [hk]
 unfold t4w
 generalize l.tail.tail.tail.tail = q
 rcases hk2 with rfl | rfl
 all_goals
  rcases q with _ | ⟨a, _ | ⟨b, r⟩⟩
  all_goals simp [eb, argF]
theorem rk_5 (hk : kwI (hdw l.tail.tail.tail) = 5) : eb (((b4 l || (t4w l).isEmpty) || (t4w l).tail.isEmpty) || nbw (t4w l).tail.tail) (t4w l).tail.tail.tail = (rwF l).isSome ∧ ∀ y, rwF l = some y → ({ nt0 l with pr := hdw (t4w l), sp := hdw (t4w l).tail, n := nmw (t4w l).tail.tail } : Nt) = y := by
 refine rk_fin l false (fun h => by rw [h]; rfl) fun h => ?_
 rw [h]
 unfold nt0
 rw [hk]
 unfold t4w
 generalize l.tail.tail.tail.tail = q
 rcases q with _ | ⟨a, _ | ⟨b, _ | ⟨c, _ | ⟨d, r⟩⟩⟩⟩
 ·simp [eb, argF]
 ·simp [eb, argF]
 ·simp [eb, argF, ze3]
 ·cases hn : numF c <;> simp [eb, argF, hn, nmw]
 ·cases hn : numF c <;> simp [eb, argF, hn, nmw]
theorem rk_7 (hk : kwI (hdw l.tail.tail.tail) = 7) : eb ((b4 l || (t4w l).isEmpty) || nbw (t4w l).tail) (t4w l).tail.tail = (rwF l).isSome ∧ ∀ y, rwF l = some y → ({ nt0 l with of_ := hdw (t4w l), ot := nmw (t4w l).tail } : Nt) = y := by
 refine rk_fin l false (fun h => by rw [h]; rfl) fun h => ?_
 rw [h]
 unfold nt0
 rw [hk]
 unfold t4w
 generalize l.tail.tail.tail.tail = q
 rcases q with _ | ⟨a, _ | ⟨b, _ | ⟨c, r⟩⟩⟩
 ·simp [eb, argF]
 ·simp [eb, argF, ze3]
 ·cases hn : numF b <;> simp [eb, argF, hn, nmw]
 ·cases hn : numF b <;> simp [eb, argF, hn, nmw]
end
def stN (q : Bool) (s : List (List UInt8) × Bool) : List UInt8 × List (List UInt8) × Bool := if q = true then (hdw s.1, s.1.tail, s.2 || s.1.isEmpty) else ([], s.1, s.2)
def stM (q : Bool) (s : List (List UInt8) × Bool) : Int × List (List UInt8) × Bool := if q = true then (nmw s.1, s.1.tail, s.2 || nbw s.1) else (0, s.1, s.2)
theorem rk_all (l : List (List UInt8)) {k : Int} (hk : kwI (hdw l.tail.tail.tail) = k) (h1 : 1 ≤ k) (h7 : k ≤ 7) {p j sp of_ : List UInt8} {n ot : Int} {l1 l2 l3 l4 l5 l6 : List (List UInt8)} {c1 c2 c3 c4 c5 c6 : Bool}
    (e1 : stN (uP k) (t4w l, b4 l) = (p, l1, c1)) (e2 : stN (uJ k) (l1, c1) = (j, l2, c2)) (e3 : stN (uS k) (l2, c2) = (sp, l3, c3)) (e4 : stM (decide (0 < uM k)) (l3, c3) = (n, l4, c4)) (e5 : stN (uU k) (l4, c4) = (of_, l5, c5)) (e6 : stM (uU k) (l5, c5) = (ot, l6, c6)) :
    eb c6 l6 = (rwF l).isSome ∧ ∀ y, rwF l = some y → (⟨hdw l, nmw l.tail, nmw l.tail.tail, k, p, j, sp, n, of_, ot⟩ : Nt) = y := by
 rcases (show k = 1 ∨ k = 2 ∨ k = 3 ∨ k = 4 ∨ k = 5 ∨ k = 6 ∨ k = 7 by omega) with rfl | rfl | rfl | rfl | rfl | rfl | rfl
 all_goals
  simp only [stN, stM, uP, uJ, uS, uU, uM, ne_eq, Int.reduceEq, not_true_eq_false, not_false_eq_true, decide_true, decide_false, if_true, if_false, Bool.false_eq_true, or_self, or_true, true_or, or_false, false_or, Int.reduceLT, Prod.mk.injEq] at e1 e2 e3 e4 e5 e6
  obtain ⟨rfl, rfl, rfl⟩ := e1
  obtain ⟨rfl, rfl, rfl⟩ := e2
  obtain ⟨rfl, rfl, rfl⟩ := e3
  obtain ⟨rfl, rfl, rfl⟩ := e4
  obtain ⟨rfl, rfl, rfl⟩ := e5
  obtain ⟨rfl, rfl, rfl⟩ := e6
 ·have := rk_1 l hk; unfold nt0 at this; rw [hk] at this; exact this
 ·have := rk_26 l 2 (.inl rfl) hk; unfold nt0 at this; rw [hk] at this; exact this
 ·have := rk_34 l 3 (.inl rfl) hk; unfold nt0 at this; rw [hk] at this; exact this
 ·have := rk_34 l 4 (.inr rfl) hk; unfold nt0 at this; rw [hk] at this; exact this
 ·have := rk_5 l hk; unfold nt0 at this; rw [hk] at this; exact this
 ·have := rk_26 l 6 (.inr rfl) hk; unfold nt0 at this; rw [hk] at this; exact this
 ·have := rk_7 l hk; unfold nt0 at this; rw [hk] at this; exact this
end Go.Proofs.YtlhbfcfjepbhpaaGreatDoor
-- NEWM
namespace Go.Proofs.YtlhbfcfjepbhpaaGreatDoor
open Go Go.RowKit
set_option maxRecDepth 1000000
abbrev rNs (ws : List (List UInt8)) : List (List CV) := ws.map fun w => [I (rN w)]
theorem numbersin_v (V : Value) (ws : List (List UInt8)) (hl : ∀ w ∈ ws, w.length ≤ 1000000) (hn : ws.length ≤ 1000) : ACallsW TabX false Tryz.prog 121 [.c (.r V (wR ws)), .c (I 15)] [] fun u H => (∃ V', u = .t [.c (.r V' (rNs ws)), .c (B (ws.all fun w => (numF w).isSome))]) ∧ H = [] := by
 have eL : (wR ws).length = ws.length := by simp
 refine zD1 zk2 false (N := 35) Tryz.func121 rfl rfl (by simp) fun E hE hP hX => ?_
 refine WA ?_
 refine WA ?_
 refine WA ?_
 refine WA ?_
 refine zK (fun m F H => ∃ (k c : Nat) (qa : Bool) (zs : List Int), m + k = ws.length ∧ zs = (ws.take k).map rN ∧ zs.length ≤ c ∧ ((ws.take k).all fun w => (numF w).isSome) = qa ∧ F = [(1, .c (I 15)), (6, .o 0 0 zs.length c), (7, .c (B qa)), (12, .c (.r V (wR ws))), (13, .c (I (wR ws).length)), (14, .c (I k))] ∧ H = [.arr 3 1 c (zs.map fun z => [I z])]) ?_ ?_
 ·refine zp [none] (fun _ => [(1, .c (I 15)), (6, .o 0 0 0 0), (7, .c (B true)), (12, .c (.r V (wR ws))), (13, .c (I (wR ws).length)), (14, .c (I (0 : Nat)))]) (fun _ => [.arr 3 1 0 []]) (by decide) (ZNL hE) ZCF ZCH (fun _ => ⟨_, 0, 0, true, [], rfl, rfl, Nat.le_refl _, rfl, rfl, rfl⟩)
 rintro m F H ⟨k, c, qa, zs, hk, hzs, hc, hqa, rfl, rfl⟩
 refine WA ?_
 refine zw rfl (fun hlt => ?_) (fun hge => ?_)
 ·obtain ⟨w, hw⟩ : ∃ w, ws[k]? = some w := ⟨_, List.getElem?_eq_getElem (by omega)⟩
  have hrow : (wR ws)[k]? = some [T w] := by rw [List.getElem?_map, hw]; rfl
  obtain ⟨qo, hqo⟩ : ∃ q, (numF w).isSome = q := ⟨_, rfl⟩
  have hnx : ws.take (k + 1) = ws.take k ++ [w] := by rw [List.take_add_one, hw]; rfl
  have hal : ((ws.take (k + 1)).all fun w => (numF w).isSome) = (qa && qo) := by rw [hnx, List.all_append, hqa]; simp [hqo]
  have hwl := hl w (List.mem_of_getElem? hw)
  have hzl : zs.length ≤ 1000 := by rw [hzs, List.length_map, List.length_take]; omega
  have hzn : zs ++ [rN w] = (ws.take (k + 1)).map rN := by rw [hnx, hzs, List.map_append]; rfl
  clear hzs hnx
  refine WA ?_
  refine WR ?_
  refine zf rfl (zQ TabX (hX _ _) false (fun _ => zv2 w hwl) rfl .fn rfl (by decide) (by kernel_rfl) rfl (fun _ => C0 rfl) (by simp)) ?_
  rintro _ _ ⟨_, _, _, ⟨rfl, rfl⟩, hF, hH⟩
  rw [hqo] at hF
  (refine NST hF hH ?_; clear hF hH; rintro rfl rfl)
  refine WE ?_
  cases qa with
  | true =>
   cases qo with
   | true =>
    refine WR ?_
    refine zf rfl (Zapp (KA (t := 22) rfl)) ?_
    rintro _ _ ⟨_, cc, hcc, rfl, rfl⟩
    refine WE ?_
    refine WA ?_
    exact zp [some 0] (fun _ => [(1, .c (I 15)), (6, .o 0 0 (zs.length + 1) cc), (7, .c (B true)), (12, .c (.r V (wR ws))), (13, .c (I (wR ws).length)), (14, .c (I (k + 1 : Nat)))]) (fun _ => [.arr 3 1 cc ((zs ++ [rN w]).map fun z => [I z])]) (by decide) (ZNL hE) ZCF (fun _ => .arr rfl (by simp) .nil) (fun _ => ⟨m - 1, by omega, k + 1, cc, true, zs ++ [rN w], by omega, hzn, by simp; omega, hal, by simp, rfl⟩)
   | false =>
    refine WR ?_
    refine zf rfl (Zapp (KA (t := 22) rfl)) ?_
    rintro _ _ ⟨_, cc, hcc, rfl, rfl⟩
    refine WE ?_
    refine WA ?_
    exact zp [some 0] (fun _ => [(1, .c (I 15)), (6, .o 0 0 (zs.length + 1) cc), (7, .c (B false)), (12, .c (.r V (wR ws))), (13, .c (I (wR ws).length)), (14, .c (I (k + 1 : Nat)))]) (fun _ => [.arr 3 1 cc ((zs ++ [rN w]).map fun z => [I z])]) (by decide) (ZNL hE) ZCF (fun _ => .arr rfl (by simp) .nil) (fun _ => ⟨m - 1, by omega, k + 1, cc, false, zs ++ [rN w], by omega, hzn, by simp; omega, hal, by simp, rfl⟩)
  | false =>
   refine WR ?_
   refine zf rfl (Zapp (KA (t := 22) rfl)) ?_
   rintro _ _ ⟨_, cc, hcc, rfl, rfl⟩
   refine WE ?_
   refine WA ?_
   exact zp [some 0] (fun _ => [(1, .c (I 15)), (6, .o 0 0 (zs.length + 1) cc), (7, .c (B false)), (12, .c (.r V (wR ws))), (13, .c (I (wR ws).length)), (14, .c (I (k + 1 : Nat)))]) (fun _ => [.arr 3 1 cc ((zs ++ [rN w]).map fun z => [I z])]) (by decide) (ZNL hE) ZCF (fun _ => .arr rfl (by simp) .nil) (fun _ => ⟨m - 1, by omega, k + 1, cc, false, zs ++ [rN w], by omega, hzn, by simp; omega, by rw [hal]; rfl, by simp, rfl⟩)
 ·obtain rfl : k = ws.length := by omega
  rw [List.take_length] at hqa hzs
  subst hqa
  have hzr : rNs ws = (zs.map fun z => [I z]) := by rw [hzs]; simp [rNs]
  rw [hzr]
  refine ZZ ?_
  refine WA ?_
  exact zu (us := [.o 0 0 zs.length c, .c (B (ws.all fun w => (numF w).isSome))]) [] (fun g => .t [.c (.r (g (.o 0 0 zs.length c)) (zs.map fun z => [I z])), .c (B (ws.all fun w => (numF w).isSome))]) (fun _ => []) (.tmp rfl (.tmp rfl .nil)) (by decide) (ZNK rfl) (fun _ => .tL (.cons (.frz rfl rfl (by rw [List.drop_zero, List.take_of_length_le (by simp)]) (by simp) rfl) (.cons (.c rfl) .nil))) ZCH (fun _ => ⟨⟨_, rfl⟩, rfl⟩)
end Go.Proofs.YtlhbfcfjepbhpaaGreatDoor
