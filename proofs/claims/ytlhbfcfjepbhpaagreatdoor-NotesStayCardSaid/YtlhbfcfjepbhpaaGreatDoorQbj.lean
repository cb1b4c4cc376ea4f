/- Closed calls: what operations read. Conditions: none. -/
import Derived.Test.YtlhbfcfjepbhpaaGreatDoorQbi
import Derived.Test.YtlhbfcfjepbhpaaGreatDoorQaw
import Derived.Test.YtlhbfcfjepbhpaaGreatDoorQba
import Derived.Test.YtlhbfcfjepbhpaaGreatDoorQav
import Derived.Test.YtlhbfcfjepbhpaaGreatDoorQaq
import Derived.Test.YtlhbfcfjepbhpaaGreatDoorQam
import Derived.LoopN
set_option linter.unusedSimpArgs false
set_option linter.unusedVariables false
-- NEWM
namespace Go.Proofs.YtlhbfcfjepbhpaaGreatDoor
open Go Go.RowKit
set_option maxRecDepth 100000
def askF (l : List Nt) (at_ : Int) : Int := if chkN l ≠ 0 then chkN l else if moB at_ = true then 0 else 1
theorem asked_v (v : Value) (l : List Nt) (at_ : Int) (hl : l.length ≤ 1000000) (hs : ∀ x ∈ l, NtS x) : ACalls Tryz.prog 128 [.c (.r v (noRs l)), .c (I at_)] [] fun u H => u = .c (I (askF l at_)) ∧ H = [] := by
 obtain ⟨q, hq⟩ : ∃ q, moB at_ = q := ⟨_, rfl⟩
 refine zg (N := 14) Tryz.func128 rfl rfl (by simp) fun E hE => ?_
 refine WA ?_
 refine WR ?_
 refine zh rfl (zc false (fun _ => zr2 v l (by omega) hs) rfl .fn rfl (by decide) (by kernel_rfl) rfl (fun _ => C0 rfl) (by simp)) ?_
 rintro _ _ ⟨_, _, _, ⟨rfl, rfl⟩, hF, hH⟩
 (refine NST hF hH ?_; clear hF hH; rintro rfl rfl)
 refine WE ?_
 refine WA ?_
 refine zq rfl (fun h0 => ?_) (fun h0 => ?_)
 ·refine WA ?_
  exact zf [] _ rfl rfl rfl (by decide) (ZNK rfl) (fun _ => .nil) ⟨by rw [askF, if_pos h0], rfl⟩
 refine ZZ ?_
 refine WR ?_
 refine zh rfl (zc false (fun _ => zi3 _) rfl .fn rfl (by decide) (by kernel_rfl) rfl (fun _ => C0 rfl) (by simp)) ?_
 rintro _ _ ⟨_, _, _, ⟨rfl, rfl⟩, hF, hH⟩
 rw [hq] at hF
 (refine NST hF hH ?_; clear hF hH; rintro rfl rfl)
 refine WE ?_
 cases q with
 | true =>
  refine za rfl ?_
  refine ZZ ?_
  refine WA ?_
  exact zf [] _ rfl rfl rfl (by decide) (ZNK rfl) (fun _ => .nil) ⟨by rw [askF, if_neg h0, if_pos hq], rfl⟩
 | false =>
  refine zb rfl ?_
  refine WA ?_
  exact zf [] _ rfl rfl rfl (by decide) (ZNK rfl) (fun _ => .nil) ⟨by rw [askF, if_neg h0, if_neg (by rw [hq]; simp)], rfl⟩
end Go.Proofs.YtlhbfcfjepbhpaaGreatDoor
namespace Go.Proofs.YtlhbfcfjepbhpaaGreatDoor
open Go Go.RowKit
def cU (at_ : Int) : (List UInt8 × Int) → List Nt → Bool
 | _, [] => false
 | key, y :: l => if at_ < y.at_ then false else (decide (y.kd = 7 ∧ (y.of_, y.ot) = key) && !cU at_ (ky y) l) || cU at_ key l
def cR (at_ : Int) : List Nt → Bool
 | [] => false
 | x :: l => decide (x.at_ ≤ at_) && !cU at_ (ky x) l
theorem cU_late {at_ : Int} {s : List UInt8 × Int} : ∀ {l : List Nt}, (∀ y, l.head? = some y → at_ < y.at_) → cU at_ s l = false
 | [], _ => rfl
 | y :: l, h => by rw [cU, if_pos (h y rfl)]
theorem cst_is {at_ : Int} {l : List Nt} (hs : ∀ i x y, l[i]? = some x → l[i + 1]? = some y → x.at_ ≤ y.at_) : ∀ k, k ≤ l.length → (∀ s, (cst at_ l k).1.contains s = cU at_ s (l.drop (l.length - k))) ∧ (cst at_ l k).2.reverse = (((List.range l.length).drop (l.length - k)).filter fun i => cR at_ (l.drop i)).map (fun i : Nat => (i : Int))
 | 0, _ => by
  refine ⟨fun s => ?_, ?_⟩
  ·rw [Nat.sub_zero, List.drop_length]; rfl
  ·rw [Nat.sub_zero, List.drop_of_length_le (by simp)]; rfl
 | k + 1, h => by
  obtain ⟨h1, h2⟩ := cst_is (at_ := at_) hs k (by omega)
  obtain ⟨x, hx, hbx⟩ := bwd_at (show k < l.length by omega)
  have hd : l.drop (l.length - (k + 1)) = x :: l.drop (l.length - k) := by
   rw [show l.length - (k + 1) = l.length - 1 - k by omega, zX3 hx, show l.length - 1 - k + 1 = l.length - k by omega]
  have hr : (List.range l.length).drop (l.length - (k + 1)) = (l.length - 1 - k) :: (List.range l.length).drop (l.length - k) := by
   rw [show l.length - (k + 1) = l.length - 1 - k by omega, zX3 (List.getElem?_range (show l.length - 1 - k < l.length by omega)), show l.length - 1 - k + 1 = l.length - k by omega]
  have hd2 : l.drop (l.length - 1 - k) = x :: l.drop (l.length - k) := by rw [← hd, show l.length - (k + 1) = l.length - 1 - k by omega]
  rw [cst_next hbx, hd, hr, List.filter_cons]
  have hlate : at_ < x.at_ → ∀ s, cU at_ s (l.drop (l.length - k)) = false := fun hl s => cU_late fun y hy => by
   rw [List.head?_drop] at hy
   have := hs (l.length - 1 - k) x y hx (by rw [show l.length - 1 - k + 1 = l.length - k by omega]; exact hy)
   omega
  have hcR : cR at_ (l.drop (l.length - 1 - k)) = (decide (x.at_ ≤ at_) && !cU at_ (ky x) (l.drop (l.length - k))) := by rw [hd2]; rfl
  have hk := h1 (ky x)
  generalize cst at_ l k = cs at h1 h2 hk
  obtain ⟨ud, out⟩ := cs
  simp only at h1 h2 hk
  by_cases c1 : at_ < x.at_
  ·have e : cstp at_ (ud, out) (l.length - 1 - k, x) = (ud, out) := by unfold cstp; rw [if_pos (.inl c1)]
   rw [e]
   refine ⟨fun s => ?_, ?_⟩
   ·rw [cU, if_pos c1, ← hlate c1 s]; exact h1 s
   ·rw [if_neg (by rw [hcR, decide_eq_false (by omega)]; simp)]; exact h2
  by_cases c2 : ky x ∈ ud
  ·have e : cstp at_ (ud, out) (l.length - 1 - k, x) = (ud, out) := by unfold cstp; rw [if_pos (.inr c2)]
   have e2 : cU at_ (ky x) (l.drop (l.length - k)) = true := by rw [← hk]; exact List.contains_iff_mem.2 c2
   rw [e]
   refine ⟨fun s => ?_, ?_⟩
   ·rw [cU, if_neg c1, e2]; simp only [Bool.not_true, Bool.and_false, Bool.false_or]; exact h1 s
   ·rw [if_neg (by rw [hcR, e2]; simp)]; exact h2
  ·have e2 : cU at_ (ky x) (l.drop (l.length - k)) = false := by rw [← hk, Bool.eq_false_iff]; exact fun h => c2 (List.contains_iff_mem.1 h)
   have e : cstp at_ (ud, out) (l.length - 1 - k, x) = (if x.kd = 7 then ud ++ [(x.of_, x.ot)] else ud, out ++ [((l.length - 1 - k : Nat) : Int)]) := by unfold cstp; rw [if_neg (fun h => h.elim c1 c2)]
   rw [e]
   refine ⟨fun s => ?_, ?_⟩
   ·rw [cU, if_neg c1, e2, Bool.not_false, Bool.and_true, ← h1 s]
    by_cases h7 : x.kd = 7
    ·rw [if_pos h7]
     by_cases hs7 : (x.of_, x.ot) = s
     ·subst hs7; simp [h7]
     ·rw [decide_eq_false (fun h => hs7 h.2), Bool.false_or, List.contains_eq_mem, List.contains_eq_mem]
      simp [Ne.symm hs7]
    ·rw [if_neg h7, decide_eq_false (fun h => h7 h.1), Bool.false_or]
   ·have hc : cR at_ (l.drop (l.length - 1 - k)) = true := by rw [hcR, e2, decide_eq_true (by omega)]; rfl
    rw [if_pos hc, List.map_cons, List.reverse_append, List.reverse_singleton, h2]; rfl
theorem cntP_doc {at_ : Int} {l : List Nt} (hs : ∀ i x y, l[i]? = some x → l[i + 1]? = some y → x.at_ ≤ y.at_) : cntP at_ l = ((List.range l.length).filter fun i => cR at_ (l.drop i)).map (fun i : Nat => (i : Int)) := by
 have := (cst_is (at_ := at_) hs l.length (Nat.le_refl _)).2
 rw [Nat.sub_self, List.drop_zero] at this
 exact this
end Go.Proofs.YtlhbfcfjepbhpaaGreatDoor
-- NEWM
namespace Go.Proofs.YtlhbfcfjepbhpaaGreatDoor
open Go Go.RowKit
set_option maxRecDepth 100000
end Go.Proofs.YtlhbfcfjepbhpaaGreatDoor
-- NEWM
namespace Go.Proofs.YtlhbfcfjepbhpaaGreatDoor
open Go Go.RowKit
set_option maxRecDepth 100000
end Go.Proofs.YtlhbfcfjepbhpaaGreatDoor
namespace Go.Proofs.YtlhbfcfjepbhpaaGreatDoor
open Go Go.RowKit
theorem chkA_ord : ∀ (l : List Nt) (p : Option Nt), chkA p l = 0 → (∀ x, l.head? = some x → badO p x = false) ∧ ∀ i x y, l[i]? = some x → l[i + 1]? = some y → cmpNt x y < 0
 | [], p, _ => ⟨fun x h => by simp at h, fun i x y h => by simp at h⟩
 | z :: l, p, h => by
  rw [zM3] at h
  split at h
  ·rename_i h1; exact absurd h h1
  split at h
  ·cases h
  ·rename_i h2
   obtain ⟨h3, h4⟩ := chkA_ord l (some z) h
   refine ⟨fun x hx => ?_, fun i x y hx hy => ?_⟩
   ·simp only [List.head?_cons, Option.some.injEq] at hx
    subst hx; simpa using h2
   ·cases i with
    | zero =>
     simp only [List.getElem?_cons_zero, Option.some.injEq] at hx
     subst hx
     have := h3 y (by rw [List.head?_eq_getElem?]; simpa using hy)
     have h5 : decide (0 ≤ cmpNt z y) = false := this
     have := of_decide_eq_false h5
     omega
    | succ i => exact h4 i x y (by simpa using hx) (by simpa using hy)
theorem chkN_ord {l : List Nt} (h : chkN l = 0) : ∀ i x y, l[i]? = some x → l[i + 1]? = some y → x.at_ ≤ y.at_ := by
 unfold chkN at h
 split at h
 ·cases h
 split at h
 ·rename_i h1; exact absurd h h1
 ·rename_i h1
  have h2 : chkA none l = 0 := Decidable.not_not.1 h1
  intro i x y hx hy
  have := (chkA_ord l none h2).2 i x y hx hy
  rw [cmpNt_lt] at this
  omega
theorem cntP_right {at_ : Int} {l : List Nt} (h : chkN l = 0) : cntP at_ l = ((List.range l.length).filter fun i => cR at_ (l.drop i)).map (fun i : Nat => (i : Int)) := cntP_doc (chkN_ord h)
end Go.Proofs.YtlhbfcfjepbhpaaGreatDoor
-- NEWM
namespace Go.Proofs.YtlhbfcfjepbhpaaGreatDoor
open Go Go.RowKit
set_option maxRecDepth 100000
end Go.Proofs.YtlhbfcfjepbhpaaGreatDoor
-- NEWM
namespace Go.Proofs.YtlhbfcfjepbhpaaGreatDoor
open Go Go.RowKit
set_option maxRecDepth 100000
theorem equalN_v (v w : Value) (a b : List Nt) (ha : a.length ≤ 1000000) (hb : b.length ≤ 1000000) : ACalls Tryz.prog 15 [.c (.r v (noRs a)), .c (.r w (noRs b))] [] fun u H => u = .c (B (decide (a = b))) ∧ H = [] := by
 have e1 : (noRs a).length = a.length := by simp
 have e2 : (noRs b).length = b.length := by simp
 refine zg (N := 26) Tryz.func15 rfl rfl (by simp) fun E hE => ?_
 refine WA ?_
 refine WA ?_
 refine zq rfl (fun h0 => ?_) (fun h0 => ?_)
 ·refine WA ?_
  exact zf [] _ rfl rfl rfl (by decide) (ZNK rfl) (fun _ => .nil) ⟨by rw [decide_eq_false (fun h => h0 (by rw [h]))], rfl⟩
 have hlen : a.length = b.length := by omega
 refine ZZ ?_
 refine WA ?_
 refine zC (fun m F H => ∃ (k : Nat), m + k = a.length ∧ a.take k = b.take k ∧ F = [(0, .c (.r v (noRs a))), (1, .c (.r w (noRs b))), (12, .c (I (noRs a).length)), (13, .c (I k))] ∧ H = []) ?_ ?_
 ·refine zl [] (fun _ => [(0, .c (.r v (noRs a))), (1, .c (.r w (noRs b))), (12, .c (I (noRs a).length)), (13, .c (I (0 : Nat)))]) (fun _ => []) (by decide) (ZNL hE) ZCF (fun _ => .nil) (fun _ => ?_)
  exact ⟨a.length, 0, by omega, rfl, rfl, rfl⟩
 rintro m F H ⟨k, hk, hf, rfl, rfl⟩
 refine WA ?_
 refine zq rfl (fun hlt => ?_) (fun hge => ?_)
 ·obtain ⟨x, hx⟩ : ∃ n, a[k]? = some n := ⟨_, List.getElem?_eq_getElem (by omega)⟩
  obtain ⟨y, hy⟩ : ∃ n, b[k]? = some n := ⟨_, List.getElem?_eq_getElem (by omega)⟩
  have hrx0 := zE1 hx
  have hry0 := zE1 hy
  obtain ⟨q, hq⟩ : ∃ q, decide (¬ x = y) = q := ⟨_, rfl⟩
  have hta : a.take (k + 1) = a.take k ++ [x] := by rw [List.take_add_one, hx]; rfl
  have htb : b.take (k + 1) = b.take k ++ [y] := by rw [List.take_add_one, hy]; rfl
  obtain ⟨x0, x1, x2, x3, x4, x5, x6, x7, x8, x9⟩ := x
  obtain ⟨y0, y1, y2, y3, y4, y5, y6, y7, y8, y9⟩ := y
  have hrx : (noRs a)[k]? = some [T x0, I x1, I x2, I x3, T x4, T x5, T x6, I x7, T x8, I x9] := hrx0
  have hry : (noRs b)[k]? = some [T y0, I y1, I y2, I y3, T y4, T y5, T y6, I y7, T y8, I y9] := hry0
  refine WA ?_
  refine ZZ ?_
  refine ze [(0, none), (1, none), (2, none), (3, none), (4, none), (5, none), (6, none), (7, none), (8, none)] zr (by kernel_rfl) ?_
  iterate 8 refine WX2 ?_
  refine ZT rfl (rd_neqN (a := ⟨x0, x1, x2, x3, x4, x5, x6, x7, x8, x9⟩) (b := ⟨y0, y1, y2, y3, y4, y5, y6, y7, y8, y9⟩) hq rfl rfl rfl) ?_
  refine WQ ?_
  cases q with
  | true =>
   refine zb rfl ?_
   refine ZZ ?_
   refine WA ?_
   refine zf [] _ rfl rfl rfl (by decide) (ZNK rfl) (fun _ => .nil) ⟨?_, rfl⟩
   rw [decide_eq_false]
   intro h
   rw [h, hy] at hx
   exact of_decide_eq_true hq (Option.some.inj hx).symm
  | false =>
   refine za rfl ?_
   refine ZZ ?_
   refine WA ?_
   refine zl [] (fun _ => [(0, .c (.r v (noRs a))), (1, .c (.r w (noRs b))), (12, .c (I (noRs a).length)), (13, .c (I (k + 1 : Nat)))]) (fun _ => []) (by decide) (ZNL hE) ZCF (fun _ => .nil) (fun _ => ?_)
   exact ⟨m - 1, by omega, k + 1, by omega, by rw [hta, htb, hf, Decidable.not_not.1 (of_decide_eq_false hq)], rfl, rfl⟩
 rw [List.take_of_length_le (by omega), List.take_of_length_le (by omega)] at hf
 refine ZZ ?_
 refine WA ?_
 exact zf [] _ rfl rfl rfl (by decide) (ZNK rfl) (fun _ => .nil) ⟨by rw [decide_eq_true hf], rfl⟩
end Go.Proofs.YtlhbfcfjepbhpaaGreatDoor
namespace Go.Proofs.YtlhbfcfjepbhpaaGreatDoor
open Go Go.RowKit
set_option maxRecDepth 100000
end Go.Proofs.YtlhbfcfjepbhpaaGreatDoor
namespace Go.Proofs.YtlhbfcfjepbhpaaGreatDoor
open Go Go.RowKit
set_option maxRecDepth 100000
inductive XT (α : Type) where
 | nil
 | node (l : XT α) (v : Option α) (r : XT α)
def XT.get {α : Type} : XT α → Nat → Option α
 | .nil, _ => none
 | .node l v r, k => match k with
  | 0 => v
  | k + 1 => match Nat.mod k 2 with
   | 0 => l.get (Nat.div k 2)
   | _ + 1 => r.get (Nat.div k 2)
def XT.set {α : Type} : Nat → XT α → Nat → α → XT α
 | 0, t, _, _ => t
 | n + 1, .nil, k, x => (match k with
  | 0 => .node .nil (some x) .nil
  | k + 1 => match Nat.mod k 2 with
   | 0 => .node (XT.set n .nil (Nat.div k 2) x) none .nil
   | _ + 1 => .node .nil none (XT.set n .nil (Nat.div k 2) x))
 | n + 1, .node l v r, k, x => (match k with
  | 0 => .node l (some x) r
  | k + 1 => match Nat.mod k 2 with
   | 0 => .node (XT.set n l (Nat.div k 2) x) v r
   | _ + 1 => .node l v (XT.set n r (Nat.div k 2) x))
theorem XT.get_set {α : Type} : ∀ (n : Nat) (t : XT α) (k : Nat) (x : α) (j : Nat), k + 1 < 2 ^ n → (XT.set n t k x).get j = if j = k then some x else t.get j
 | 0, t, k, x, j, h => by omega
 | n + 1, t, k, x, j, h => by
  have key : ∀ (l r : XT α) (v : Option α), (XT.set (n + 1) (.node l v r) k x).get j = if j = k then some x else (XT.node l v r).get j := fun l r v => by
   cases k with
   | zero =>
    cases j with
    | zero => rfl
    | succ j => simp [XT.set, XT.get]
   | succ k =>
    have hk : Nat.div k 2 + 1 < 2 ^ n := by
     have : (2 : Nat) ^ (n + 1) = 2 * 2 ^ n := by rw [Nat.pow_succ, Nat.mul_comm]
     have h2 : Nat.div k 2 = k / 2 := rfl
     omega
    have hm : Nat.mod k 2 = k % 2 := rfl
    cases j with
    | zero =>
     have h0 : ¬ (0 = k + 1) := by omega
     unfold XT.set
     simp only
     split <;> simp [XT.get]
    | succ j =>
     have hd : ∀ a : Nat, Nat.div a 2 = a / 2 := fun _ => rfl
     have hmj : ∀ a : Nat, Nat.mod a 2 = a % 2 := fun _ => rfl
     rcases Nat.mod_two_eq_zero_or_one k with h1 | h1 <;> rcases Nat.mod_two_eq_zero_or_one j with h2 | h2
     ·have ih := XT.get_set n l (Nat.div k 2) x (Nat.div j 2) hk
      have e1 : XT.set (n + 1) (.node l v r) (k + 1) x = .node (XT.set n l (Nat.div k 2) x) v r := by rw [XT.set]; simp only [hmj, h1]
      rw [e1, XT.get, XT.get]
      simp only [hmj, h2]
      rw [ih]
      simp only [hd]
      by_cases he : j = k
      ·subst he; simp
      ·rw [if_neg (by omega), if_neg (by omega)]
     ·have e1 : XT.set (n + 1) (.node l v r) (k + 1) x = .node (XT.set n l (Nat.div k 2) x) v r := by rw [XT.set]; simp only [hmj, h1]
      rw [e1, XT.get, XT.get]
      simp only [hmj, h2]
      rw [if_neg (by omega)]
     ·have e1 : XT.set (n + 1) (.node l v r) (k + 1) x = .node l v (XT.set n r (Nat.div k 2) x) := by rw [XT.set]; simp only [hmj, h1]
      rw [e1, XT.get, XT.get]
      simp only [hmj, h2]
      rw [if_neg (by omega)]
     ·have ih := XT.get_set n r (Nat.div k 2) x (Nat.div j 2) hk
      have e1 : XT.set (n + 1) (.node l v r) (k + 1) x = .node l v (XT.set n r (Nat.div k 2) x) := by rw [XT.set]; simp only [hmj, h1]
      rw [e1, XT.get, XT.get]
      simp only [hmj, h2]
      rw [ih]
      simp only [hd]
      by_cases he : j = k
      ·subst he; simp
      ·rw [if_neg (by omega), if_neg (by omega)]
  cases t with
  | node l v r => exact key l r v
  | nil =>
   have e : XT.set (n + 1) (.nil : XT α) k x = XT.set (n + 1) (.node .nil none .nil) k x := by
    unfold XT.set
    cases k with
    | zero => rfl
    | succ k => rfl
   rw [e, key .nil .nil none]
   split
   ·rfl
   ·cases j with
    | zero => rfl
    | succ j => simp only [XT.get]; split <;> rfl
def xdepth : Nat := 20
def xcap : Nat := 1048575
inductive XV where
 | v (x : Value)
 | p (b j : Nat)
 | sl (b k n c : Nat)
 | sg (b k n e : Nat)
 | se (b k q e : Nat)
 | m (b : Nat)
 | a (l : List XV)
 | t (l : List XV)
 | f (fn : FuncId) (caps : List XV)
 | yl (b : Nat)
inductive XB where
 | cells (e : TypeId) (cs : List XV)
 | grown (e : TypeId) (sz : Nat) (cs : List XV)
 | map (es : List (Value × XV)) (bs : List Nat) (ck : Nat)
 | iter (m since : Nat) (seen : List Nat) (last : Nat)
 | dead
mutual
def XV.den (ρ γ : Nat → Nat) : XV → Value
 | .v x => x
 | .p b j => .pointer (some ⟨ρ b, j, none⟩)
 | .sl b k n c => .slice (some ⟨ρ b, k, none⟩) n c
 | .sg b k n e => .slice (some ⟨ρ b, k, none⟩) n (γ b - e)
 | .se b k q e => .slice (some ⟨ρ b, if γ b = e then k else q, none⟩) 0 (γ b - e)
 | .m b => .map (some (ρ b))
 | .a l => .agg (XV.denL ρ γ l).toArray
 | .t l => .tuple (XV.denL ρ γ l).toArray
 | .f fn caps => .func (.func fn) #[] (XV.denL ρ γ caps).toArray
 | .yl b => .func (.yield (ρ b)) #[] #[]
def XV.denL (ρ γ : Nat → Nat) : List XV → List Value
 | [] => []
 | x :: l => x.den ρ γ :: XV.denL ρ γ l
end
theorem XV.denL_eq (ρ γ : Nat → Nat) : ∀ l, XV.denL ρ γ l = l.map (XV.den ρ γ)
 | [] => rfl
 | x :: l => by rw [XV.denL, XV.denL_eq ρ γ l]; rfl
mutual
/-- All blocks that are named are there, with room enough. -/
def XV.ok (A : Nat → Nat → Prop) : XV → Prop
 | .v _ => True
 | .p b _ => A b 0
 | .sl b _ _ _ => A b 0
 | .sg b _ n e => A b (n + e)
 | .se b _ _ e => A b e
 | .m b => A b 0
 | .a l => XV.okL A l
 | .t l => XV.okL A l
 | .f _ l => XV.okL A l
 | .yl b => A b 0
def XV.okL (A : Nat → Nat → Prop) : List XV → Prop
 | [] => True
 | x :: l => x.ok A ∧ XV.okL A l
end
theorem XV.okL_iff {A : Nat → Nat → Prop} : ∀ {l : List XV}, XV.okL A l ↔ ∀ x ∈ l, x.ok A
 | [] => by simp [XV.okL]
 | x :: l => by simp [XV.okL, XV.okL_iff (l := l)]
theorem XV.induct {Pr : XV → Prop} (hv : ∀ x, Pr (.v x)) (hp : ∀ b j, Pr (.p b j)) (hs : ∀ b k n c, Pr (.sl b k n c)) (hg : ∀ b k n e, Pr (.sg b k n e)) (he : ∀ b k q e, Pr (.se b k q e)) (hm : ∀ b, Pr (.m b)) (ha : ∀ l, (∀ x ∈ l, Pr x) → Pr (.a l)) (ht : ∀ l, (∀ x ∈ l, Pr x) → Pr (.t l)) (hf : ∀ fn l, (∀ x ∈ l, Pr x) → Pr (.f fn l)) (hy : ∀ b, Pr (.yl b)) : ∀ x, Pr x := by
 intro x
 refine XV.rec (motive_1 := Pr) (motive_2 := fun l => ∀ x ∈ l, Pr x) hv hp hs hg he hm (fun l h => ha l h) (fun l h => ht l h) (fun fn l h => hf fn l h) hy (fun x h => by cases h) (fun x l h1 h2 y hy => ?_) x
 rcases List.mem_cons.1 hy with rfl | hy
 ·exact h1
 ·exact h2 y hy
theorem XV.den_same {ρ γ ρ' γ' : Nat → Nat} {A : Nat → Nat → Prop} (h : ∀ b m, A b m → ρ' b = ρ b ∧ γ' b = γ b) (x : XV) : x.ok A → x.den ρ' γ' = x.den ρ γ := by
 refine XV.induct (Pr := fun x => x.ok A → x.den ρ' γ' = x.den ρ γ) ?_ ?_ ?_ ?_ ?_ ?_ ?_ ?_ ?_ ?_ x
 ·intro x _; rfl
 ·intro b j hb; simp only [XV.den, (h _ _ hb).1]
 ·intro b k m c hb; simp only [XV.den, (h _ _ hb).1]
 ·intro b k m e hb; simp only [XV.den, (h _ _ hb).1, (h _ _ hb).2]
 ·intro b k q e hb; simp only [XV.den, (h _ _ hb).1, (h _ _ hb).2]
 ·intro b hb; simp only [XV.den, (h _ _ hb).1]
 ·intro l ih hl; rw [XV.ok, XV.okL_iff] at hl; simp only [XV.den, XV.denL_eq]; rw [List.map_congr_left fun x hx => ih x hx (hl x hx)]
 ·intro l ih hl; rw [XV.ok, XV.okL_iff] at hl; simp only [XV.den, XV.denL_eq]; rw [List.map_congr_left fun x hx => ih x hx (hl x hx)]
 ·intro fn l ih hl; rw [XV.ok, XV.okL_iff] at hl; simp only [XV.den, XV.denL_eq]; rw [List.map_congr_left fun x hx => ih x hx (hl x hx)]
 ·intro b hb; simp only [XV.den, (h _ _ hb).1]
theorem XV.ok_mono {A B : Nat → Nat → Prop} (h : ∀ b m, A b m → B b m) (x : XV) : x.ok A → x.ok B := by
 refine XV.induct (Pr := fun x => x.ok A → x.ok B) ?_ ?_ ?_ ?_ ?_ ?_ ?_ ?_ ?_ ?_ x
 ·intro x _; trivial
 ·intro b j hb; exact h _ _ hb
 ·intro b k m c hb; exact h _ _ hb
 ·intro b k m e hb; exact h _ _ hb
 ·intro b k q e hb; exact h _ _ hb
 ·intro b hb; exact h _ _ hb
 ·intro l ih hl; rw [XV.ok, XV.okL_iff] at hl ⊢; exact fun x hx => ih x hx (hl x hx)
 ·intro l ih hl; rw [XV.ok, XV.okL_iff] at hl ⊢; exact fun x hx => ih x hx (hl x hx)
 ·intro fn l ih hl; rw [XV.ok, XV.okL_iff] at hl ⊢; exact fun x hx => ih x hx (hl x hx)
 ·intro b hb; exact h _ _ hb
def XOwn (w : World) (ρ γ : Nat → Nat) (B g : Nat) : XB → Prop
 | .cells e cs => w.heap[B]? = some (.cells (cs.map (XV.den ρ γ)).toArray e (0, 0)) ∧ ∀ x ∈ cs, (x.den ρ γ).oneCell' = true
 | .grown e sz cs => ∃ arr, w.heap[B]? = some (.cells arr e (0, 0)) ∧ arr.size = g * sz ∧ g ≤ maxLen ∧ cs.length ≤ arr.size ∧ ∀ (i : Nat) (x : XV), cs[i]? = some x → arr[i]? = some (x.den ρ γ) ∧ (x.den ρ γ).oneCell' = true
 | .map es bs ck => ∃ ms, w.heap[B]? = some (.map ms ck) ∧ ms.toList.map (fun m => (m.key, m.val)) = es.map (fun p => (p.1, p.2.den ρ γ)) ∧ ms.toList.map (·.born) = bs
 | .iter m since seen last => w.heap[B]? = some (.mapIter (some (ρ m)) since seen.toArray last)
 | .dead => True
def XB.ok (A : Nat → Nat → Prop) : XB → Prop
 | .cells _ cs => XV.okL A cs
 | .grown _ _ cs => XV.okL A cs
 | .map es _ _ => ∀ p ∈ es, p.2.ok A
 | .iter m _ _ _ => A m 0
 | .dead => True
def XB.live : XB → Bool
 | .dead => false
 | _ => true
abbrev XHp := XT XB
abbrev XFr := XT XV
def XT.has {α : Type} (t : XT α) (γ : Nat → Nat) (b m : Nat) : Prop := (t.get b).isSome = true ∧ m ≤ γ b
structure XEnv where
 w : World
 X : Nat → Option Obj
 own : List Nat
structure XBs (E : XEnv) (w' : World) : Prop extends Stp E.w w' (fun _ => False) where
 fx : ∀ B ob, E.X B = some ob → w'.heap[B]? = some ob
theorem XBs.lt {E : XEnv} {w' : World} (h : XBs E w') {B : Nat} {ob : Obj} (hB : E.X B = some ob) : B < w'.heap.size := (Array.getElem?_eq_some_iff.1 (h.fx B ob hB)).1
theorem XBs.new {E : XEnv} {w' : World} (h : XBs E w') : E.X w'.heap.size = none := by
 cases hX : E.X w'.heap.size with
 | none => rfl
 | some ob => exact absurd (h.lt hX) (Nat.lt_irrefl _)
theorem XBs.alloc {E : XEnv} {w' : World} (h : XBs E w') (o : Obj) : XBs E (w'.alloc o) := ⟨h.toStp.alloc o, fun B ob hB => (Below.heap_alloc w' o B (h.lt hB)).trans (h.fx B ob hB)⟩
theorem XBs.drew {E : XEnv} {w' : World} (h : XBs E w') : XBs E w'.drew := ⟨h.toStp.drew, h.fx⟩
structure XH (w0 : XEnv) (ρ γ : Nat → Nat) (H : XHp) (w : World) : Prop where
 nd : ∀ i j o o', H.get i = some o → H.get j = some o' → o.live = true → o'.live = true → ρ i = ρ j → i = j
 hi : ∀ i o, H.get i = some o → o.live = true → w0.w.heap.size ≤ ρ i ∧ ρ i < w.heap.size
 ap : ∀ i o, H.get i = some o → o.live = true → w0.X (ρ i) = none
 bl : ∀ i o, H.get i = some o → o.ok (H.has γ) ∧ XOwn w ρ γ (ρ i) (γ i) o
 st : XBs w0 w
structure XR (N : Nat) (w0 : XEnv) (ρ γ : Nat → Nat) (F : XFr) (H : XHp) (a : Act) (w : World) : Prop where
 df : a.defers = w0.own.map (fun D => ⟨.collected D, #[]⟩) ∧ w0.own.Nodup ∧ ∀ D ∈ w0.own, w0.X D = some (.deferred (some [])) ∧ w0.w.heap.size ≤ D
 sz : N ≤ a.tmps.size
 fr : ∀ i x, F.get i = some x → a.tmps[i]? = some (x.den ρ γ) ∧ x.ok (H.has γ)
 hp : XH w0 ρ γ H w
def xev (F : XFr) : Operand → Option XV
 | .tmp t => F.get t
 | .const v => some (.v v)
 | .func f => some (.f f [])
 | .global _ => none
section
variable {N : Nat} {w0 : XEnv} {ρ γ : Nat → Nat} {F : XFr} {H : XHp} {a : Act} {w : World}
theorem XR.ev {x : Operand} {v : XV} (h : XR N w0 ρ γ F H a w) (hx : xev F x = some v) : a.eval x = v.den ρ γ ∧ v.ok (H.has γ) := by
 cases x with
 | tmp t =>
  obtain ⟨h1, h2⟩ := h.fr t v hx
  exact ⟨by rw [Act.eval, Array.getD_eq_getD_getElem?, h1]; rfl, h2⟩
 | const c =>
  simp only [xev, Option.some.injEq] at hx
  subst hx
  exact ⟨rfl, trivial⟩
 | func f =>
  simp only [xev, Option.some.injEq] at hx
  subst hx
  exact ⟨rfl, trivial⟩
 | global g => cases hx
def xput (N : Nat) (F : XFr) (d : Nat) (x : XV) : Option XFr := bif Nat.blt d N && Nat.blt d xcap then some (XT.set xdepth F d x) else none
theorem zZ1 {F' : XFr} {d : Nat} {x : XV} (h : xput N F d x = some F') : d < N ∧ ∀ i, F'.get i = if i = d then some x else F.get i := by
 unfold xput at h
 cases hc : (Nat.blt d N && Nat.blt d xcap) with
 | false => rw [hc] at h; cases h
 | true =>
  rw [hc] at h
  injection h with h
  subst h
  simp only [Bool.and_eq_true, Nat.blt_eq] at hc
  exact ⟨hc.1, fun i => XT.get_set xdepth F d x i (by have := hc.2; simp only [xcap, xdepth] at *; omega)⟩
theorem XR.put {F' : XFr} {d : Nat} {x : XV} (h : XR N w0 ρ γ F H a w) (hp : xput N F d x = some F') (hx : x.ok (H.has γ)) : XR N w0 ρ γ F' H (a.put (some d) (x.den ρ γ)) w := by
 obtain ⟨hd, hg⟩ := zZ1 hp
 refine ⟨h.df, by simpa [Act.put] using h.sz, fun i y hy => ?_, h.hp⟩
 rw [hg] at hy
 by_cases hi : i = d
 ·subst hi
  rw [if_pos rfl] at hy
  injection hy with hy
  subst hy
  have := h.sz
  exact ⟨by simp [Act.put, Array.getElem?_setIfInBounds]; omega, hx⟩
 ·rw [if_neg hi] at hy
  obtain ⟨h1, h2⟩ := h.fr i y hy
  exact ⟨by simp only [Act.put]; rw [Array.getElem?_setIfInBounds_ne (Ne.symm hi)]; exact h1, h2⟩
end
end Go.Proofs.YtlhbfcfjepbhpaaGreatDoor
namespace Go.Proofs.YtlhbfcfjepbhpaaGreatDoor
open Go Go.RowKit
set_option maxRecDepth 100000
def semPure {α : Type} (P : Program) : Sem α → Option α
 | .pure a => some a
 | .program k => semPure P (k P)
 | .mark _ k => semPure P k
 | .choose q k => bif q.forced then semPure P (k 0) else none
 | _ => none
theorem zW {α : Type} {P : Program} (w : World) : ∀ {s : Sem α} {a : α}, semPure P s = some a → s.run P w = .ok a w := by
 intro s
 induction s with
 | pure a => intro b h; injection h with h; subst h; rfl
 | program k ih => intro b h; exact ih P h
 | mark m k ih => intro b h; exact ih h
 | choose q k ih =>
  intro b h
  unfold semPure at h
  cases hq : q.forced with
  | false => rw [hq] at h; cases h
  | true =>
   rw [hq] at h
   simp only [Sem.run, hq, if_true]
   exact ih 0 h
 | _ => intro b h; cases h
def xnorm : Value → XV
 | .agg cs => .a (cs.toList.map .v)
 | .tuple cs => .t (cs.toList.map .v)
 | v => .v v
theorem zO1 (ρ γ : Nat → Nat) (v : Value) : (xnorm v).den ρ γ = v := by
 unfold xnorm
 split
 ·simp [XV.den, XV.denL_eq, Function.comp_def]
 ·simp [XV.den, XV.denL_eq, Function.comp_def]
 ·rfl
theorem zm2 (A : Nat → Nat → Prop) (v : Value) : (xnorm v).ok A := by
 unfold xnorm
 split
 ·rw [XV.ok, XV.okL_iff]; intro x hx; obtain ⟨u, _, rfl⟩ := List.mem_map.1 hx; trivial
 ·rw [XV.ok, XV.okL_iff]; intro x hx; obtain ⟨u, _, rfl⟩ := List.mem_map.1 hx; trivial
 ·trivial
def xplL : List XV → Option (List Value)
 | [] => some []
 | .v u :: l => (match xplL l with
  | some us => some (u :: us)
  | none => none)
 | _ :: _ => none
theorem xplL_den (ρ γ : Nat → Nat) : ∀ {l : List XV} {us : List Value}, xplL l = some us → XV.denL ρ γ l = us
 | [], us, h => by cases h; rfl
 | .v u :: l, us, h => by
  unfold xplL at h
  split at h
  ·rename_i vs hv; injection h with h; subst h; rw [XV.denL, xplL_den ρ γ hv, XV.den]
  ·cases h
 | .p .. :: _, _, h => by cases h
 | .sl .. :: _, _, h => by cases h
 | .sg .. :: _, _, h => by cases h
 | .se .. :: _, _, h => by cases h
 | .m .. :: _, _, h => by cases h
 | .a .. :: _, _, h => by cases h
 | .t .. :: _, _, h => by cases h
 | .f .. :: _, _, h => by cases h
 | .yl .. :: _, _, h => by cases h
def xpl : XV → Option Value
 | .v u => some u
 | .a l => (match xplL l with
  | some us => some (.agg us.toArray)
  | none => none)
 | _ => none
theorem xpl_den (ρ γ : Nat → Nat) {x : XV} {u : Value} (h : xpl x = some u) : x.den ρ γ = u := by
 unfold xpl at h
 split at h
 ·cases h; rfl
 ·split at h
  ·rename_i us hu; injection h with h; subst h; simp only [XV.den, xplL_den ρ γ hu]
  ·cases h
 ·cases h
def xevn (F : XFr) (x : Operand) : Option XV := match x with
 | .const v => some (xnorm v)
 | x => xev F x
def xevp (F : XFr) (x : Operand) : Option Value := match x with
 | .const v => some v
 | x => match xev F x with
  | some y => xpl y
  | none => none
def xcell (H : XHp) (b j : Nat) : Option XV := match H.get b with
 | some (.cells _ cs) => cs[j]?
 | some (.grown _ _ cs) => cs[j]?
 | _ => none
def xcellsN (H : XHp) (b j n : Nat) : Option (List XV) := match H.get b with
 | some (.cells _ cs) => let l := (cs.drop j).take n; bif Nat.beq l.length n then some l else none
 | some (.grown _ _ cs) => let l := (cs.drop j).take n; bif Nat.beq l.length n then some l else none
 | _ => none
section
variable {P : Program} {N : Nat} {w0 : XEnv} {ρ γ : Nat → Nat} {F : XFr} {H : XHp} {a : Act} {w : World} {o : Oper}
theorem XR.evn {x : Operand} {v : XV} (h : XR N w0 ρ γ F H a w) (hx : xevn F x = some v) : a.eval x = v.den ρ γ ∧ v.ok (H.has γ) := by
 unfold xevn at hx
 split at hx
 ·injection hx with hx; subst hx; exact ⟨(zO1 _ _ _).symm, zm2 _ _⟩
 ·exact h.ev hx
theorem XR.evp {x : Operand} {v : Value} (h : XR N w0 ρ γ F H a w) (hx : xevp F x = some v) : a.eval x = v := by
 unfold xevp at hx
 split at hx
 ·cases hx; rfl
 ·split at hx
  ·rename_i y hy; rw [(h.ev hy).1]; exact xpl_den _ _ hx
  ·cases hx
theorem XH.cell (h : XH w0 ρ γ H w) {b j : Nat} {x : XV} (hx : xcell H b j = some x) : w.cell? ⟨ρ b, j, none⟩ = some (x.den ρ γ) ∧ x.ok (H.has γ) ∧ (x.den ρ γ).oneCell' = true := by
 unfold xcell at hx
 split at hx
 ·rename_i e cs hb
  obtain ⟨h1, h2, h3⟩ := h.bl b _ hb
  rw [XB.ok, XV.okL_iff] at h1
  refine ⟨?_, h1 x (List.mem_of_getElem? hx), h3 x (List.mem_of_getElem? hx)⟩
  unfold World.cell?
  rw [h2]; simp [List.getElem?_map, hx]
 ·rename_i e sz cs hb
  obtain ⟨h1, arr, h2, h3, h4, h5, h6⟩ := h.bl b _ hb
  rw [XB.ok, XV.okL_iff] at h1
  obtain ⟨h7, h8⟩ := h6 j x hx
  refine ⟨?_, h1 x (List.mem_of_getElem? hx), h8⟩
  unfold World.cell?
  rw [h2]
  simp [h7]
 ·cases hx
theorem zq3 {b n j : Nat} {l : List XV} (h : xcellsN H b j n = some l) : l.length = n ∧ ∀ i x, l[i]? = some x → xcell H b (j + i) = some x := by
 have key : ∀ cs : List XV, (bif Nat.beq ((cs.drop j).take n).length n then some ((cs.drop j).take n) else none) = some l → l.length = n ∧ ∀ i x, l[i]? = some x → cs[j + i]? = some x := fun cs hc => by
  cases hq : Nat.beq ((cs.drop j).take n).length n with
  | false => rw [hq] at hc; cases hc
  | true =>
   rw [hq] at hc
   injection hc with hc
   subst hc
   refine ⟨Nat.eq_of_beq_eq_true hq, fun i x hi => ?_⟩
   rw [List.getElem?_take] at hi
   split at hi
   ·rw [List.getElem?_drop] at hi; exact hi
   ·cases hi
 unfold xcellsN at h
 unfold xcell
 split at h
 ·exact key _ h
 ·exact key _ h
 ·cases h
def xload (P : Program) (t : TypeId) (H : XHp) (b j : Nat) : Option XV := match ldk P t with
 | some none => xcell H b j
 | some (some n) => (match xcellsN H b j n with
  | some l => some (.a l)
  | none => none)
 | none => none
theorem xload_ok {t : TypeId} {b j : Nat} {x : XV} (h : XH w0 ρ γ H w) (hx : xload P t H b j = some x) : (Instr.loadAt t (.pointer (some ⟨ρ b, j, none⟩))).run P w = .ok (x.den ρ γ) w ∧ x.ok (H.has γ) := by
 unfold xload at hx
 split at hx
 ·rename_i hk
  obtain ⟨h1, h2, _⟩ := h.cell hx
  generalize ρ b = B at h1 ⊢
  exact ⟨by simp [Instr.loadAt, Instr.sureAddr, loadVar, (ldk_none (w := w) hk).1, h1], h2⟩
 ·rename_i n hk
  split at hx
  ·rename_i l hl
   injection hx with hx
   subst hx
   obtain ⟨h1, h2⟩ := zq3 hl
   have hc : ∀ k, k < n → w.cell? ⟨ρ b, j + (0 + k), none⟩ = (l.map (XV.den ρ γ))[0 + k]? := fun k hk => by
    have h3 : l[k]? = some l[k] := List.getElem?_eq_getElem (by omega)
    rw [Nat.zero_add, (h.cell (h2 k _ h3)).1, List.getElem?_map, h3]; rfl
   have hl2 := zt1 (P := P) (w := w) (B := ρ b) (off := j) (vs := l.map (XV.den ρ γ)) n 0 #[] hc (by simp [h1])
   refine ⟨?_, ?_⟩
   ·simp only [Instr.loadAt, Instr.sureAddr, loadVar, loadCells, Sem.run_bind, Sem.run_pure, Result.andThen_ok, (zo2 (w := w) hk).1, (zo2 (w := w) hk).2, hl2, if_true, List.drop_zero, XV.den, XV.denL_eq]
    rw [List.take_of_length_le (by simp [h1])]
    simp
   ·rw [XV.ok, XV.okL_iff]
    intro x hx
    obtain ⟨i, hi⟩ := List.getElem?_of_mem hx
    exact (h.cell (h2 i x hi)).2.1
  ·cases hx
 ·cases hx
end
end Go.Proofs.YtlhbfcfjepbhpaaGreatDoor
