/- Plain law: speeds that are made less until none is too great are the same. -/
import Derived.Test.YtdmeohgojdfmoaaGreatDoorMp
set_option linter.unusedSimpArgs false
set_option linter.unusedVariables false
namespace Go.Proofs.YtdmeohgojdfmoaaGreatDoor
def sumN : List Int → Nat
  | [] => 0
  | x :: l => x.toNat + sumN l
theorem sumN_set : ∀ {w : List Int} {j : Nat} {a z : Int}, w[j]? = some a → 0 ≤ z → z < a → sumN (w.set j z) < sumN w
  | [], _, _, _, h, _, _ => by simp at h
  | x :: w, 0, a, z, h, h0, h1 => by
    obtain rfl : x = a := by simpa using h
    simp only [List.set_cons_zero, sumN]; omega
  | x :: w, j + 1, a, z, h, h0, h1 => by
    have := sumN_set (w := w) (j := j) (by simpa using h) h0 h1
    simp only [List.set_cons_succ, sumN]; omega
abbrev Kp (l : List Leg) (cs : List Int) (ch : Int) (u : Nat → Int) : Prop := Keeps l.length (capL l cs) (disL l ch) u
structure Low (l : List Leg) (cs : List Int) (ch : Int) (w : List Int) : Prop where
  len : w.length = l.length + 1
  cap : ∀ j, j ≤ l.length → 0 ≤ w.getD j 0 ∧ w.getD j 0 ≤ capL l cs j
  low : ∀ u, Kp l cs ch u → ∀ j, j ≤ l.length → u j ≤ w.getD j 0
theorem Low.get {l : List Leg} {cs w : List Int} {ch : Int} (h : Low l cs ch w) {j : Nat} (hj : j ≤ l.length) : w[j]? = some (w.getD j 0) := by
  rw [List.getD_eq_getElem?_getD, List.getElem?_eq_getElem (by rw [h.len]; omega)]; rfl
theorem getD_set {w : List Int} {i j : Nat} {z : Int} (hi : i < w.length) : (w.set i z).getD j 0 = if i = j then z else w.getD j 0 := by
  rw [List.getD_eq_getElem?_getD, List.getD_eq_getElem?_getD, List.getElem?_set]
  split
  · first | rfl | (rw [if_pos (by omega)]; rfl)
  · rfl
theorem Low.put {l : List Leg} {cs w : List Int} {ch : Int} (h : Low l cs ch w) {i : Nat} {z : Int} (hi : i ≤ l.length) (h0 : 0 ≤ z) (h1 : z < w.getD i 0) (h2 : ∀ u, Kp l cs ch u → u i ≤ z) : Low l cs ch (w.set i z) ∧ sumN (w.set i z) < sumN w := by
  have hlt : i < w.length := by rw [h.len]; omega
  refine ⟨⟨by rw [List.length_set]; exact h.len, fun j hj => ?_, fun u hu j hj => ?_⟩, sumN_set (h.get hi) h0 h1⟩
  · rw [getD_set hlt]
    have := h.cap j hj
    split
    · rename_i e; subst e; omega
    · exact this
  · rw [getD_set hlt]
    split
    · rename_i e; subst e; exact h2 u hu
    · exact h.low u hu j hj
theorem Low.up {l : List Leg} {cs w : List Int} {ch : Int} (h : Low l cs ch w) {i : Nat} (hi : i < l.length) (hd : 0 ≤ disL l ch i) (h1 : rt (w.getD i 0) (disL l ch i) < w.getD (i + 1) 0) : Low l cs ch (w.set (i + 1) (rt (w.getD i 0) (disL l ch i))) ∧ sumN (w.set (i + 1) (rt (w.getD i 0) (disL l ch i))) < sumN w := by
  refine h.put (by omega) (rt_nn _ _) h1 fun u hu => ?_
  exact Int.le_trans (hu.2 i hi).1 (rt_mono (hu.1 i (by omega)).1 (h.low u hu i (by omega)) hd)
theorem Low.dn {l : List Leg} {cs w : List Int} {ch : Int} (h : Low l cs ch w) {i : Nat} (hi : i < l.length) (hd : 0 ≤ disL l ch i) (h1 : rt (w.getD (i + 1) 0) (disL l ch i) < w.getD i 0) : Low l cs ch (w.set i (rt (w.getD (i + 1) 0) (disL l ch i))) ∧ sumN (w.set i (rt (w.getD (i + 1) 0) (disL l ch i))) < sumN w := by
  refine h.put (by omega) (rt_nn _ _) h1 fun u hu => ?_
  exact Int.le_trans (hu.2 i hi).2 (rt_mono (hu.1 (i + 1) (by omega)).1 (h.low u hu (i + 1) (by omega)) hd)
/-- A round so far: nothing is made less and all is right, or the sum is less. -/
def Rel (l : List Leg) (ch : Int) (w0 : List Int) (i : Nat) (b : Bool) (w : List Int) : Prop :=
  (b = false ∧ w = w0 ∧ ∀ j, j < i → w.getD (j + 1) 0 ≤ rt (w.getD j 0) (disL l ch j) ∧ w.getD j 0 ≤ rt (w.getD (j + 1) 0) (disL l ch j)) ∨ (b = true ∧ sumN w < sumN w0)
def RelM (l : List Leg) (ch : Int) (w0 : List Int) (i : Nat) (b : Bool) (w : List Int) : Prop :=
  (Rel l ch w0 i b w ∧ w.getD (i + 1) 0 ≤ rt (w.getD i 0) (disL l ch i)) ∨ (b = true ∧ sumN w < sumN w0)
theorem Rel.zero (l : List Leg) (ch : Int) (w : List Int) : Rel l ch w 0 false w := .inl ⟨rfl, rfl, fun _ h => absurd h (Nat.not_lt_zero _)⟩
theorem Rel.sum {l : List Leg} {ch : Int} {w0 w : List Int} {i : Nat} {b : Bool} (h : Rel l ch w0 i b w) : sumN w ≤ sumN w0 := by
  rcases h with ⟨_, rfl, _⟩ | ⟨_, h⟩ <;> omega
theorem RelM.sum {l : List Leg} {ch : Int} {w0 w : List Int} {i : Nat} {b : Bool} (h : RelM l ch w0 i b w) : sumN w ≤ sumN w0 := by
  rcases h with ⟨h, _⟩ | ⟨_, h⟩
  · exact h.sum
  · omega
theorem RelM.next {l : List Leg} {ch : Int} {w0 w : List Int} {i : Nat} {b : Bool} (h : RelM l ch w0 i b w) (h1 : w.getD i 0 ≤ rt (w.getD (i + 1) 0) (disL l ch i)) : Rel l ch w0 (i + 1) b w := by
  rcases h with ⟨⟨rfl, rfl, h2⟩ | ⟨rfl, h2⟩, h3⟩ | ⟨rfl, h2⟩
  · refine .inl ⟨rfl, rfl, fun j hj => ?_⟩
    by_cases e : j = i
    · subst e; exact ⟨h3, h1⟩
    · exact h2 j (by omega)
  · exact .inr ⟨rfl, h2⟩
  · exact .inr ⟨rfl, h2⟩
theorem Rel.best {l : List Leg} {cs : List Int} {ch : Int} {w0 w : List Int} (hr : Right l cs) (hc : 1 ≤ ch) (hl : Low l cs ch w) (h : Rel l ch w0 l.length false w) : w = speedsS l cs ch := by
  rcases h with ⟨_, rfl, h2⟩ | ⟨h, _⟩
  · exact speedsS_uniq hr hc hl.len ⟨⟨hl.cap, h2⟩, hl.low⟩
  · cases h
/-- The first list: what corners and limits allow. -/
def MidC (l : List Leg) (cs : List Int) (k : Nat) (w : List Int) : Prop := w.length = l.length + 1 ∧ ∀ j, j ≤ l.length → w[j]? = some (if j ≤ k then capL l cs j else 0)
theorem midC_zero (l : List Leg) (cs : List Int) : MidC l cs 0 (List.replicate (l.length + 1) 0) := by
  refine ⟨by simp, fun j hj => ?_⟩
  rw [List.getElem?_replicate, if_pos (by omega)]
  split
  · obtain rfl : j = 0 := by omega
    rw [capL_zero]
  · rfl
theorem midC_next {l : List Leg} {cs w : List Int} {k : Nat} (h : MidC l cs k w) (hk : k + 1 ≤ l.length) : MidC l cs (k + 1) (w.set (k + 1) (capL l cs (k + 1))) := by
  refine ⟨by rw [List.length_set]; exact h.1, fun j hj => ?_⟩
  rw [List.getElem?_set]
  split
  · rename_i e
    subst e
    rw [if_pos (by rw [h.1]; omega), if_pos (by omega)]
  · rename_i e
    rw [h.2 j hj]
    by_cases hjk : j ≤ k
    · rw [if_pos hjk, if_pos (by omega)]
    · rw [if_neg hjk, if_neg (by omega)]
theorem midC_low {l : List Leg} {cs w : List Int} {ch : Int} {k : Nat} (hr : Right l cs) (h : MidC l cs k w) (hk : k + 1 = l.length) : Low l cs ch w := by
  have hg : ∀ j, j ≤ l.length → w.getD j 0 = capL l cs j := fun j hj => by
    rw [getD_of (h.2 j hj)]
    split
    · rfl
    · obtain rfl : j = l.length := by omega
      exact (capL_last l cs).symm
  exact ⟨h.1, fun j hj => by rw [hg j hj]; exact ⟨(hr.cap j).1, Int.le_refl _⟩, fun u hu j hj => by rw [hg j hj]; exact (hu.1 j hj).2⟩
end Go.Proofs.YtdmeohgojdfmoaaGreatDoor
