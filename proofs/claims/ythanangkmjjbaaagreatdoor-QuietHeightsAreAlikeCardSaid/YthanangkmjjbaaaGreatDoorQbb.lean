/- slices.Compact of numbers, by value. -/
import Derived.Test.YthanangkmjjbaaaGreatDoorQba
import Derived.Test.YthanangkmjjbaaaGreatDoorQaw
set_option linter.unusedSimpArgs false
set_option linter.unusedVariables false
/- Plain law: runs of equals, and lists in order. -/
namespace Go.Proofs.YthanangkmjjbaaaGreatDoor
/-- Each run of equals once. -/
def compG {α : Type} [DecidableEq α] : List α → List α
  | [] => []
  | [x] => [x]
  | x :: y :: l => if x = y then compG (y :: l) else x :: compG (y :: l)
theorem compG_len {α : Type} [DecidableEq α] : ∀ l : List α, (compG l).length ≤ l.length
  | [] => Nat.le_refl _
  | [x] => Nat.le_refl _
  | x :: y :: l => by
    have := compG_len (y :: l)
    unfold compG
    split
    · simp only [List.length_cons] at this ⊢; omega
    · simp only [List.length_cons] at this ⊢; omega
theorem compG_mem {α : Type} [DecidableEq α] {x : α} : ∀ {l : List α}, x ∈ compG l ↔ x ∈ l
  | [] => by simp [compG]
  | [y] => by simp [compG]
  | y :: z :: l => by
    unfold compG
    split
    · rename_i h; rw [compG_mem, h]; simp
    · rw [List.mem_cons, compG_mem, List.mem_cons (a := x) (b := y)]
/-- Sides in their order. -/
def leSb (a b : Sid2) : Bool := decide (a.f < b.f) || (decide (a.f = b.f) && decide (a.t ≤ b.t))
theorem leSb_iff {a b : Sid2} : leSb a b = true ↔ leS a b := by unfold leSb leS; simp
def srtS (l : List Sid2) : List Sid2 := l.mergeSort leSb
theorem srtS_perm (l : List Sid2) : (srtS l).Perm l := List.mergeSort_perm _ _
theorem srtS_sorted (l : List Sid2) : (srtS l).Pairwise leS := by
  have := List.pairwise_mergeSort (le := leSb) (fun a b c h1 h2 => by rw [leSb_iff] at *; unfold leS at *; omega) (fun a b => by rw [Bool.or_eq_true, leSb_iff, leSb_iff]; unfold leS; omega) l
  exact this.imp fun h => leSb_iff.1 h
/-- The order is one only. -/
theorem srtS_is {l l' : List Sid2} (hp : l'.Perm l) (hs : l'.Pairwise leS) : l' = srtS l :=
  List.Perm.eq_of_pairwise (le := leS) (fun _ _ _ _ => leS_anti) hs (srtS_sorted l) (hp.trans (srtS_perm l).symm)
end Go.Proofs.YthanangkmjjbaaaGreatDoor

/- slices.Compact of numbers, by value. -/
-- NEWM
namespace Go.Proofs.YthanangkmjjbaaaGreatDoor
open Go Go.RowKit
set_option maxRecDepth 100000
section
variable {P : Program} {N : Nat} {E : Env} {S : Nat → Prop} {ρ : List (Option Nat)} {F : Fm} {H : List OB} {a : Act} {w : World} {Q : Exit → Fm → List OB → Prop}
/-- Of an array fewer rows are known. -/
theorem R.trunc {b sz cap : Nat} {e : TypeId} {rows : List (List CV)} (hb : H[b]? = some (.arr e sz cap rows)) (m : Nat) (h : R N E S ρ F H a w) : R N E S ρ F (H.set b (.arr e sz cap (rows.take m))) a w := by
  have he := Ex.set (ρ := ρ) (ob' := .arr e sz cap (rows.take m)) hb rfl rfl (fun h => absurd rfl h)
  have hm : Mo w S w S := fun b hb => ⟨hb, rfl⟩
  refine h.ex he hm ⟨by simpa using h.hp.len, h.hp.nd, h.hp.ap, h.hp.lt, h.hp.sS, fun i x hx => ?_⟩ h.st h.nw h.nS
  rw [List.getElem?_set] at hx
  split at hx
  · rename_i hi
    subst hi
    split at hx
    · injection hx with hx
      subst hx
      rcases h.hp.blk _ _ hb with ⟨h1, h2, h3⟩ | ⟨B, cs, h1, h2, h3, h4, h5, h6, h7⟩
      · exact .inl ⟨h1, h2, by rw [h3]; simp⟩
      · refine .inr ⟨B, cs, h1, h2, h3, h4, Nat.le_trans (by rw [List.length_take]; omega) h5, fun row hr => h6 row (List.mem_of_mem_take hr), fun k j row u hk hj => ?_⟩
        rw [List.getElem?_take] at hk
        split at hk
        · exact h7 k j row u hk hj
        · cases hk
    · cases hx
  · exact (h.hp.blk i x hx).ex he hm (fun _ _ => rfl)
theorem aw_trunc {c : Code} {b sz cap : Nat} {e : TypeId} {rows : List (List CV)} (m : Nat) (hb : H[b]? = some (.arr e sz cap rows)) (h : AW P N E c F (H.set b (.arr e sz cap (rows.take m))) Q) : AW P N E c F H Q := fun S ρ a w hR => h S ρ a w (hR.trunc hb m)
end
theorem compL_snoc {x : Int} : ∀ {l : List Int} {y : Int}, l.getLast? = some y → compL (l ++ [x]) = if y = x then compL l else compL l ++ [x]
  | [z], y, h => by
    simp only [List.getLast?_singleton, Option.some.injEq] at h
    subst h
    simp only [List.cons_append, List.nil_append, compL]
    split <;> simp_all [compL]
  | z :: u :: l, y, h => by
    rw [List.getLast?_cons_cons] at h
    have ih := compL_snoc (x := x) h
    simp only [List.cons_append] at ih ⊢
    simp only [compL]
    split
    · rw [ih]
    · rw [ih]; split <;> simp
theorem take_last {l : List Int} {k : Nat} {y : Int} (h : l[k]? = some y) : (l.take (k + 1)).getLast? = some y := by
  rw [List.take_add_one, h]; simp
theorem compL_step {l : List Int} {k : Nat} {x y : Int} (hx : l[k + 1]? = some x) (hy : l[k]? = some y) : compL (l.take (k + 2)) = if y = x then compL (l.take (k + 1)) else compL (l.take (k + 1)) ++ [x] := by
  rw [List.take_add_one (i := k + 1), hx]
  exact compL_snoc (take_last hy)
theorem compL_len : ∀ l : List Int, (compL l).length ≤ l.length
  | [] => Nat.le_refl _
  | [x] => Nat.le_refl _
  | x :: y :: l => by
    have := compL_len (y :: l)
    unfold compL
    split
    · simp only [List.length_cons] at this ⊢; omega
    · simp only [List.length_cons] at this ⊢; omega
theorem compactI_v (l : List Int) (c : Nat) (hl : l.length ≤ 1000000) (hlc : l.length ≤ c) : ACalls Tryz.prog 70 [.o 0 0 l.length c] [.arr 3 1 c (zR l)] fun u H => u = .o 0 0 (compL l).length c ∧ H = [.arr 3 1 c (zR (compL l))] := by
  have e1 : (zR l).length = l.length := by simp
  refine acalls_of (N := 61) Tryz.func70 rfl rfl (by simp) fun E hE => ?_
  refine WA ?_
  refine WA ?_
  refine aw_if rfl (fun hs => ?_) (fun hs => ?_)
  · have hc : compL l = l := by
      match l, hs with
      | [], _ => rfl
      | [x], _ => rfl
      | _ :: _ :: _, h => simp at h; omega
    refine WA ?_
    exact aret_o [some 0] (fun _ => [.arr 3 1 c (zR l)]) rfl rfl rfl rfl rfl (by decide) (ZNK rfl) ZCH (fun _ => ⟨by rw [hc], by rw [hc]⟩)
  refine ZZ ?_
  refine WA ?_
  refine aw_loopw (fun m F H => ∃ (k : Nat), m + k = l.length ∧ 1 ≤ k ∧ compL (l.take k) = l.take k ∧ F = [(0, .o 0 0 l.length c), (3, .c (I k))] ∧ H = [.arr 3 1 c (zR l)]) ?_ ?_
  · refine wk_of [some 0] (fun _ => [(0, .o 0 0 l.length c), (3, .c (I (1 : Nat)))]) (fun _ => [.arr 3 1 c (zR l)]) (by decide) (ZNL hE) ZCF ZCH (fun _ => ?_)
    refine ⟨l.length - 1, 1, by omega, by omega, ?_, rfl, rfl⟩
    match l, hs with
    | [], h => simp at h
    | x :: l, _ => rfl
  rintro m F H ⟨k, hk, hk1, hcp, rfl, rfl⟩
  refine WA ?_
  refine aw_if rfl (fun hlt => ?_) (fun hge => ?_)
  · obtain ⟨k, rfl⟩ : ∃ q, k = q + 1 := ⟨k - 1, by omega⟩
    obtain ⟨x, hx⟩ : ∃ x, l[k + 1]? = some x := ⟨_, List.getElem?_eq_getElem (by omega)⟩
    obtain ⟨y, hy⟩ : ∃ y, l[k]? = some y := ⟨_, List.getElem?_eq_getElem (by omega)⟩
    have hrx : (zR l)[0 + (k + 1)]? = some [I x] := by rw [Nat.zero_add, List.getElem?_map, hx]; rfl
    have hry : (zR l)[0 + k]? = some [I y] := by rw [Nat.zero_add, List.getElem?_map, hy]; rfl
    have hst := compL_step hx hy
    refine ZZ ?_
    refine aw_regionT [(0, none), (1, none), (2, none), (3, none), (4, none), (5, none), (6, none), (7, none), (8, none), (9, none)] hMixed (by kernel_rfl) ?_
    iterate 7 refine WX2 ?_
    refine ZT rfl (rd_index (i := k) rfl (KE (t := 22) rfl) rfl rfl rfl (by omega) (by omega)) ?_
    refine WQ ?_
    refine aw_if rfl (fun heq => ?_) (fun hne => ?_)
    · generalize hK : k + 1 = K at *
      refine ZR ?_
      iterate 2 refine WX1 ?_
      refine ZA (rd_slice (l := K) (h := l.length) rfl (KE (t := 22) rfl) rfl rfl (.inr ⟨_, _, _, rfl, rfl, rfl⟩) (.inl ⟨rfl, rfl⟩) (by omega) (by omega) (by omega)) ?_
      refine WE ?_
      refine WA ?_
      rw [if_pos heq.symm] at hst
      refine aw_loopw (fun m F H => ∃ (d i : Nat) (r : List Int), m + d = l.length - K ∧ 1 ≤ d ∧ i + 1 ≤ K + d ∧ r.length = l.length ∧ r.take i = compL (l.take (K + d)) ∧ (compL (l.take (K + d))).length = i ∧ (∀ q, K + d ≤ q + 1 → r[q]? = l[q]?) ∧ F = [(0, .o 0 0 l.length c), (3, .c (I i)), (4, .o 0 (0 + K) (l.length - K) (c - K)), (5, .c (I d))] ∧ H = [.arr 3 1 c (zR r)]) ?_ ?_
      · refine wk_of [some 0] (fun _ => [(0, .o 0 0 l.length c), (3, .c (I K)), (4, .o 0 (0 + K) (l.length - K) (c - K)), (5, .c (I (1 : Nat)))]) (fun _ => [.arr 3 1 c (zR l)]) (by decide) (ZNL hE) ZCF ZCH (fun _ => ?_)
        have hst' : compL (l.take (K + 1)) = l.take K := by rw [show K + 1 = k + 2 by omega, hst, hcp]
        exact ⟨l.length - K - 1, 1, K, l, by omega, by omega, by omega, rfl, by rw [hst'], by rw [hst', List.length_take]; omega, fun q _ => rfl, rfl, rfl⟩
      rintro m2 F H ⟨d, i, r, hm, hd, hi, hr, hti, htl, hq, rfl, rfl⟩
      refine WA ?_
      refine aw_if rfl (fun hlt2 => ?_) (fun hge2 => ?_)
      · obtain ⟨D, rfl⟩ : ∃ q, d = q + 1 := ⟨d - 1, by omega⟩
        obtain ⟨p, hp⟩ : ∃ p, l[K + D + 1]? = some p := ⟨_, List.getElem?_eq_getElem (by omega)⟩
        obtain ⟨o, ho⟩ : ∃ o, l[K + D]? = some o := ⟨_, List.getElem?_eq_getElem (by omega)⟩
        have h7 : (zR r)[0 + K + (D + 1)]? = some [I p] := by rw [Nat.zero_add, List.getElem?_map, show K + (D + 1) = K + D + 1 by omega, hq _ (by omega), hp]; rfl
        have h8 : (zR r)[0 + K + D]? = some [I o] := by rw [Nat.zero_add, List.getElem?_map, hq _ (by omega), ho]; rfl
        obtain ⟨u0, hu0⟩ : ∃ u, (zR r)[0 + i]? = some [I u] := ⟨r[i]'(by omega), by rw [Nat.zero_add, List.getElem?_map, List.getElem?_eq_getElem (by omega)]; rfl⟩
        have hst2 := compL_step hp ho
        rw [show K + D + 2 = K + (D + 1 + 1) by omega, show K + D + 1 = K + (D + 1) by omega] at hst2
        refine ZZ ?_
        refine aw_regionT [(0, none), (1, none), (2, none), (3, none), (4, none), (5, none), (6, none), (7, none), (8, none), (9, none)] hMixed (by kernel_rfl) ?_
        iterate 7 refine WX2 ?_
        refine ZT rfl (rd_index (i := D) rfl (KE (t := 22) rfl) rfl rfl rfl (by omega) (by omega)) ?_
        refine WQ ?_
        refine aw_if rfl (fun hne => ?_) (fun heq2 => ?_)
        · rw [if_neg (fun h => hne h.symm)] at hst2
          refine WA ?_
          refine WA ?_
          refine WA ?_
          refine wk_of [some 0] (fun _ => [(0, .o 0 0 l.length c), (3, .c (I (i + 1 : Nat))), (4, .o 0 (0 + K) (l.length - K) (c - K)), (5, .c (I (D + 1 + 1 : Nat)))]) (fun _ => [.arr 3 1 c (zR (r.set i p))]) (by decide) (ZNL hE) ZCF ZCH (fun _ => ?_)
          refine ⟨m2 - 1, by omega, D + 1 + 1, i + 1, r.set i p, by omega, by omega, by omega, by simpa using hr, ?_, ?_, fun q hqq => ?_, rfl, rfl⟩
          · rw [hst2, ← hti, List.take_add_one, List.getElem?_set_self (by omega), List.take_set_of_le (Nat.le_refl _)]; rfl
          · rw [hst2, List.length_append, htl]; rfl
          · rw [List.getElem?_set_ne (by omega)]; exact hq q (by omega)
        · have heq3 : p = o := by simpa using heq2
          rw [if_pos heq3.symm] at hst2
          refine ZZ ?_
          refine WA ?_
          refine wk_of [some 0] (fun _ => [(0, .o 0 0 l.length c), (3, .c (I i)), (4, .o 0 (0 + K) (l.length - K) (c - K)), (5, .c (I (D + 1 + 1 : Nat)))]) (fun _ => [.arr 3 1 c (zR r)]) (by decide) (ZNL hE) ZCF ZCH (fun _ => ?_)
          exact ⟨m2 - 1, by omega, D + 1 + 1, i, r, by omega, by omega, by omega, hr, by rw [hst2]; exact hti, by rw [hst2]; exact htl, fun q hqq => hq q (by omega), rfl, rfl⟩
      refine ZZ ?_
      have hdd : d = l.length - K := by omega
      have hal : l.take (K + d) = l := List.take_of_length_le (by omega)
      rw [hal] at hti htl
      have htr : (zR r).take i = zR (compL l) := by rw [← hti]; simp [zR]
      refine aw_trunc (b := 0) i rfl ?_
      simp only [List.set_cons_zero]
      rw [htr]
      have hcl := compL_len l
      refine ZR ?_
      iterate 2 refine WX1 ?_
      refine ZA (rd_slicex (l := i) (h := l.length) rfl (KE (t := 22) rfl) rfl rfl (.inr ⟨_, _, _, rfl, rfl, rfl⟩) (.inl ⟨rfl, rfl⟩) (by omega) (by omega) (by omega)) ?_
      refine al_ef rfl (ef_clear rfl rfl (KE (t := 22) rfl) (KZ (t := 3) rfl) rfl rfl rfl rfl (by simp; omega)) ?_
      rintro _ _ ⟨rfl, rfl⟩
      refine WE ?_
      refine ZR ?_
      iterate 2 refine WX1 ?_
      refine ZA (rd_slicex (l := 0) (h := i) rfl (KE (t := 22) rfl) rfl rfl (.inl ⟨rfl, rfl⟩) (.inr ⟨_, _, _, rfl, rfl, rfl⟩) (by omega) (by omega) (by omega)) ?_
      refine WE ?_
      exact aret_o (k' := (compL l).length) (c := c) [some 0] (fun _ => [.arr 3 1 c (zR (compL l))]) rfl rfl rfl (by omega) rfl (by decide) (ZNK rfl) ZCH (fun _ => ⟨rfl, rfl⟩)
    · rw [if_neg (fun h => hne h.symm)] at hst
      refine ZZ ?_
      refine WA ?_
      refine wk_of [some 0] (fun _ => [(0, .o 0 0 l.length c), (3, .c (I (k + 1 + 1 : Nat)))]) (fun _ => [.arr 3 1 c (zR l)]) (by decide) (ZNL hE) ZCF ZCH (fun _ => ?_)
      refine ⟨m - 1, by omega, k + 1 + 1, by omega, by omega, ?_, rfl, rfl⟩
      rw [hst, hcp, List.take_add_one (i := k + 1), hx]; rfl
  have hkk : k = l.length := by omega
  rw [hkk, List.take_of_length_le (Nat.le_refl _)] at hcp
  refine WA ?_
  exact aret_o [some 0] (fun _ => [.arr 3 1 c (zR l)]) rfl rfl rfl rfl rfl (by decide) (ZNK rfl) ZCH (fun _ => ⟨by rw [hcp], by rw [hcp]⟩)
end Go.Proofs.YthanangkmjjbaaaGreatDoor
