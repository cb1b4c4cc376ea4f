/- slices.Clone, Reverse, by value; places of paths; searches of places. -/
import Derived.Test.YtdmeohgojdfmoaaGreatDoorKs
import Derived.Test.YtdmeohgojdfmoaaGreatDoorKa
import Derived.Test.YtdmeohgojdfmoaaGreatDoorMb
import Derived.Test.YtdmeohgojdfmoaaGreatDoorMc
set_option linter.unusedSimpArgs false
set_option linter.unusedVariables false
namespace Go.Proofs.YtdmeohgojdfmoaaGreatDoor
open Go Go.RowKit
set_option maxRecDepth 100000
theorem okR_map {α : Type} {f : α → List CV} {sz : Nat} (h : ∀ x, (f x).length = sz ∧ ∀ u ∈ f x, u.one = true) (l : List α) : OkR sz (l.map f) := fun row hr => by
  obtain ⟨x, -, rfl⟩ := List.mem_map.1 hr
  exact h x
/-- The first k and the last k of a list have changed their places. -/
def SwK {α : Type} (l : List α) (k : Nat) (l' : List α) : Prop := l'.length = l.length ∧ ∀ m, m < l.length → l'[m]? = if m < k ∨ l.length - 1 - m < k then l[l.length - 1 - m]? else l[m]?
theorem SwK.zero {α : Type} (l : List α) : SwK l 0 l := ⟨rfl, fun m hm => by rw [if_neg (by omega)]⟩
theorem SwK.next {α : Type} {l l' : List α} {k j : Nat} {x y : α} (h : SwK l k l') (hj : k + j + 1 = l.length) (hkj : k < j) (hx : l'[k]? = some x) (hy : l'[j]? = some y) : SwK l (k + 1) ((l'.set k y).set j x) := by
  obtain ⟨h1, h2⟩ := h
  have ek := h2 k (by omega)
  have ej := h2 j (by omega)
  rw [if_neg (by omega), hx] at ek
  rw [if_neg (by omega), hy] at ej
  refine ⟨by simp [h1], fun m hm => ?_⟩
  rw [List.getElem?_set, List.getElem?_set]
  by_cases hmj : j = m
  · subst hmj
    rw [if_pos rfl, if_pos (by simp; omega), if_pos (by omega), show l.length - 1 - j = k from by omega, ← ek]
  · rw [if_neg hmj]
    by_cases hmk : k = m
    · subst hmk
      rw [if_pos rfl, if_pos (by omega), if_pos (by omega), show l.length - 1 - k = j from by omega, ← ej]
    · rw [if_neg hmk, h2 m hm]
      by_cases hc : m < k ∨ l.length - 1 - m < k
      · rw [if_pos hc, if_pos (by omega)]
      · rw [if_neg hc, if_neg (by omega)]
theorem SwK.fin {α : Type} {l l' : List α} {k : Nat} (h : SwK l k l') (hkj : l.length ≤ 2 * k + 1) : l' = l.reverse := by
  obtain ⟨h1, h2⟩ := h
  refine List.ext_getElem? fun m => ?_
  rcases Nat.lt_or_ge m l.length with hm | hm
  · rw [List.getElem?_reverse hm, h2 m hm]
    by_cases hc : m < k ∨ l.length - 1 - m < k
    · rw [if_pos hc]
    · rw [if_neg hc, show l.length - 1 - m = m from by omega]
  · rw [List.getElem?_eq_none (by omega), List.getElem?_eq_none (by simp; omega)]
theorem cloneL_a (R : List (List CV)) (v : Value) (hR : OkR 2 R) (hl : R.length ≤ 1000000) : ACalls Tryz.prog 40 [.c (.r v R)] [] fun u H => ∃ c : Nat, R.length ≤ c ∧ u = .o 0 0 R.length c ∧ H = [.arr 38 2 c R] := by
  refine acalls_of (N := 8) Tryz.func40 rfl rfl (by simp) fun E hE => ?_
  refine aw_rnil (t := 0) rfl fun hnil => ?_
  refine WA ?_
  refine WA ?_
  refine aw_cond rfl (fun h => ?_) (fun h => ?_)
  · obtain rfl : R = [] := hnil h
    refine WA ?_
    exact aret_of (us := [.c (.r (.slice none 0 0) [])]) [none] (fun _ => .o 0 0 0 0) (fun _ => [.arr 38 2 0 []]) (.tmp rfl .nil) (by decide) (ZNK rfl) (fun _ => .nil rfl) ZCH (fun _ => ⟨0, by simp, rfl, rfl⟩)
  · refine ZZ ?_
    refine WR ?_
    refine al_ef rfl (Zapp (hE := KA (t := 26) rfl) (hsrc := .ro (fun r h => (hR r h).1) (fun r h => (hR r h).2))) ?_
    rintro _ _ ⟨_, cc, hcc, rfl, rfl⟩
    refine WE ?_
    exact aret_o [some 0] (fun _ => [.arr 38 2 cc R]) rfl rfl rfl (by simp) rfl (by decide) (ZNK rfl) ZCH (fun _ => ⟨cc, by omega, rfl, rfl⟩)
theorem cloneI_a (R : List (List CV)) (v : Value) (hR : OkR 1 R) (hl : R.length ≤ 1000000) : ACalls Tryz.prog 29 [.c (.r v R)] [] fun u H => ∃ c : Nat, R.length ≤ c ∧ u = .o 0 0 R.length c ∧ H = [.arr 3 1 c R] := by
  refine acalls_of (N := 8) Tryz.func29 rfl rfl (by simp) fun E hE => ?_
  refine aw_rnil (t := 0) rfl fun hnil => ?_
  refine WA ?_
  refine WA ?_
  refine aw_cond rfl (fun h => ?_) (fun h => ?_)
  · obtain rfl : R = [] := hnil h
    refine WA ?_
    exact aret_of (us := [.c (.r (.slice none 0 0) [])]) [none] (fun _ => .o 0 0 0 0) (fun _ => [.arr 3 1 0 []]) (.tmp rfl .nil) (by decide) (ZNK rfl) (fun _ => .nil rfl) ZCH (fun _ => ⟨0, by simp, rfl, rfl⟩)
  · refine ZZ ?_
    refine WR ?_
    refine al_ef rfl (Zapp (hE := KA (t := 22) rfl) (hsrc := .ro (fun r h => (hR r h).1) (fun r h => (hR r h).2))) ?_
    rintro _ _ ⟨_, cc, hcc, rfl, rfl⟩
    refine WE ?_
    exact aret_o [some 0] (fun _ => [.arr 3 1 cc R]) rfl rfl rfl (by simp) rfl (by decide) (ZNK rfl) ZCH (fun _ => ⟨cc, by omega, rfl, rfl⟩)
theorem cloneP_a (R : List (List CV)) (v : Value) (hR : OkR 2 R) (hl : R.length ≤ 1000000) : ACalls Tryz.prog 154 [.c (.r v R)] [] fun u H => ∃ c : Nat, R.length ≤ c ∧ u = .o 0 0 R.length c ∧ H = [.arr 90 2 c R] := by
  refine acalls_of (N := 8) Tryz.func154 rfl rfl (by simp) fun E hE => ?_
  refine aw_rnil (t := 0) rfl fun hnil => ?_
  refine WA ?_
  refine WA ?_
  refine aw_cond rfl (fun h => ?_) (fun h => ?_)
  · obtain rfl : R = [] := hnil h
    refine WA ?_
    exact aret_of (us := [.c (.r (.slice none 0 0) [])]) [none] (fun _ => .o 0 0 0 0) (fun _ => [.arr 90 2 0 []]) (.tmp rfl .nil) (by decide) (ZNK rfl) (fun _ => .nil rfl) ZCH (fun _ => ⟨0, by simp, rfl, rfl⟩)
  · refine ZZ ?_
    refine WR ?_
    refine al_ef rfl (Zapp (hE := KA (t := 85) rfl) (hsrc := .ro (fun r h => (hR r h).1) (fun r h => (hR r h).2))) ?_
    rintro _ _ ⟨_, cc, hcc, rfl, rfl⟩
    refine WE ?_
    exact aret_o [some 0] (fun _ => [.arr 90 2 cc R]) rfl rfl rfl (by simp) rfl (by decide) (ZNK rfl) ZCH (fun _ => ⟨cc, by omega, rfl, rfl⟩)
theorem revL_a (l : List Leg) (c : Nat) (hl : l.length ≤ 1000000) (hc : l.length ≤ c) : ACallsX true Tryz.prog 84 [.o 0 0 l.length c] [.arr 38 2 c (l.map Leg.row)] fun u H => u = .t [] ∧ H = [.arr 38 2 c (l.reverse.map Leg.row)] := by
  refine acallsx_of true (N := 28) Tryz.func84 rfl rfl (by simp) fun E hE hP => ?_
  refine WA ?_
  refine aw_loopw (fun q F H => ∃ (k : Nat) (j : Int) (l' : List Leg), q + k = l.length ∧ j = (l.length : Int) - 1 - k ∧ k ≤ l.length ∧ SwK l k l' ∧ F = [(0, .o 0 0 l.length c), (2, .c (I k)), (3, .c (I j))] ∧ H = [.arr 38 2 c (l'.map Leg.row)]) ?_ ?_
  · refine wk_of [some 0] (fun _ => [(0, .o 0 0 l.length c), (2, .c (I (0 : Nat))), (3, .c (I ((l.length : Int) - 1)))]) (fun _ => _) (by decide) (ZNL hE) ZCF ZCH (fun _ => ?_)
    exact ⟨l.length, 0, _, l, by omega, by omega, by omega, .zero l, rfl, rfl⟩
  rintro q F H ⟨k, j, l', hq, hj, hkl, hS, rfl, rfl⟩
  refine WA ?_
  refine aw_if rfl (fun hlt => ?_) (fun hge => ?_)
  · obtain ⟨j', rfl⟩ : ∃ j' : Nat, j = j' := ⟨j.toNat, by omega⟩
    have hl1 := hS.1
    obtain ⟨x, hx⟩ : ∃ x, l'[k]? = some x := ⟨_, List.getElem?_eq_getElem (by omega)⟩
    obtain ⟨y, hy⟩ : ∃ y, l'[j']? = some y := ⟨_, List.getElem?_eq_getElem (by omega)⟩
    have hrx : (l'.map Leg.row)[k]? = some [I x.long, I x.limit] := by rw [List.getElem?_map, hx]; rfl
    have hry : (l'.map Leg.row)[j']? = some [I y.long, I y.limit] := by rw [List.getElem?_map, hy]; rfl
    have hry2 : ((l'.map Leg.row).set (0 + k) [I y.long, I y.limit])[0 + j']? = some [I y.long, I y.limit] := by rw [Nat.zero_add, Nat.zero_add, List.getElem?_set_ne (by omega), hry]
    have hS2 := hS.next (j := j') (by omega) (by omega) hx hy
    have hm : (((l'.set k y).set j' x).map Leg.row) = ((l'.map Leg.row).set (0 + k) [I y.long, I y.limit]).set (0 + j') [I x.long, I x.limit] := by rw [List.map_set, List.map_set, Nat.zero_add, Nat.zero_add]
    refine ZZ ?_
    refine aw_regionT [(0, none), (1, none), (2, none), (3, none), (4, none), (5, none), (6, none), (7, none), (8, none), (9, none), (10, none), (11, none), (12, none), (13, some [2, 3]), (14, none), (15, some [])] hMixed (by kernel_rfl) ?_
    refine WQ ?_
    refine WA ?_
    refine wk_of [some 0] (fun _ => [(0, .o 0 0 l.length c), (2, .c (I (k + 1 : Nat))), (3, .c (I ((j' : Int) - 1)))]) (fun _ => [.arr 38 2 c (((l'.set k y).set j' x).map Leg.row)]) (by decide) (ZNL hE) ZCF (by rw [hm]; exact ZCH) (fun _ => ?_)
    exact ⟨q - 1, by omega, k + 1, _, _, by omega, by omega, by omega, hS2, rfl, rfl⟩
  refine ZZ ?_
  have he : l' = l.reverse := hS.fin (by omega)
  subst he
  refine aret_0 [some 0] (fun _ => [.arr 38 2 c (l.reverse.map Leg.row)]) (by simp) rfl (by decide) (ZNK rfl) ZCH (fun _ => ⟨rfl, rfl⟩)
theorem revI_a (l : List Int) (c : Nat) (hl : l.length ≤ 1000000) (hc : l.length ≤ c) : ACallsX true Tryz.prog 26 [.o 0 0 l.length c] [.arr 3 1 c (l.map (fun z => [I z]))] fun u H => u = .t [] ∧ H = [.arr 3 1 c (l.reverse.map (fun z => [I z]))] := by
  refine acallsx_of true (N := 28) Tryz.func26 rfl rfl (by simp) fun E hE hP => ?_
  refine WA ?_
  refine aw_loopw (fun q F H => ∃ (k : Nat) (j : Int) (l' : List Int), q + k = l.length ∧ j = (l.length : Int) - 1 - k ∧ k ≤ l.length ∧ SwK l k l' ∧ F = [(0, .o 0 0 l.length c), (2, .c (I k)), (3, .c (I j))] ∧ H = [.arr 3 1 c (l'.map (fun z => [I z]))]) ?_ ?_
  · refine wk_of [some 0] (fun _ => [(0, .o 0 0 l.length c), (2, .c (I (0 : Nat))), (3, .c (I ((l.length : Int) - 1)))]) (fun _ => _) (by decide) (ZNL hE) ZCF ZCH (fun _ => ?_)
    exact ⟨l.length, 0, _, l, by omega, by omega, by omega, .zero l, rfl, rfl⟩
  rintro q F H ⟨k, j, l', hq, hj, hkl, hS, rfl, rfl⟩
  refine WA ?_
  refine aw_if rfl (fun hlt => ?_) (fun hge => ?_)
  · obtain ⟨j', rfl⟩ : ∃ j' : Nat, j = j' := ⟨j.toNat, by omega⟩
    have hl1 := hS.1
    obtain ⟨x, hx⟩ : ∃ x, l'[k]? = some x := ⟨_, List.getElem?_eq_getElem (by omega)⟩
    obtain ⟨y, hy⟩ : ∃ y, l'[j']? = some y := ⟨_, List.getElem?_eq_getElem (by omega)⟩
    have hrx : (l'.map (fun z => [I z]))[k]? = some [I x] := by rw [List.getElem?_map, hx]; rfl
    have hry : (l'.map (fun z => [I z]))[j']? = some [I y] := by rw [List.getElem?_map, hy]; rfl
    have hry2 : ((l'.map (fun z => [I z])).set (0 + k) [I y])[0 + j']? = some [I y] := by rw [Nat.zero_add, Nat.zero_add, List.getElem?_set_ne (by omega), hry]
    have hS2 := hS.next (j := j') (by omega) (by omega) hx hy
    have hm : (((l'.set k y).set j' x).map (fun z => [I z])) = ((l'.map (fun z => [I z])).set (0 + k) [I y]).set (0 + j') [I x] := by rw [List.map_set, List.map_set, Nat.zero_add, Nat.zero_add]
    refine ZZ ?_
    refine aw_regionT [(0, none), (1, none), (2, none), (3, none), (4, none), (5, none), (6, none), (7, none), (8, none), (9, none), (10, none), (11, none), (12, none), (13, some [2, 3]), (14, none), (15, some [])] hMixed (by kernel_rfl) ?_
    refine WQ ?_
    refine WA ?_
    refine wk_of [some 0] (fun _ => [(0, .o 0 0 l.length c), (2, .c (I (k + 1 : Nat))), (3, .c (I ((j' : Int) - 1)))]) (fun _ => [.arr 3 1 c (((l'.set k y).set j' x).map (fun z => [I z]))]) (by decide) (ZNL hE) ZCF (by rw [hm]; exact ZCH) (fun _ => ?_)
    exact ⟨q - 1, by omega, k + 1, _, _, by omega, by omega, by omega, hS2, rfl, rfl⟩
  refine ZZ ?_
  have he : l' = l.reverse := hS.fin (by omega)
  subst he
  refine aret_0 [some 0] (fun _ => [.arr 3 1 c (l.reverse.map (fun z => [I z]))]) (by simp) rfl (by decide) (ZNK rfl) ZCH (fun _ => ⟨rfl, rfl⟩)
end Go.Proofs.YtdmeohgojdfmoaaGreatDoor
