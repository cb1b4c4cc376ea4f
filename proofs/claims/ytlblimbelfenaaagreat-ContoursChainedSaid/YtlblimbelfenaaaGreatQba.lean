/- slices.Compact of sides, by value. -/
import Derived.Test.YtlblimbelfenaaaGreatQat
import Derived.Test.YtlblimbelfenaaaGreatQav
import Derived.Test.YtlblimbelfenaaaGreatQar
set_option linter.unusedSimpArgs false
set_option linter.unusedVariables false
/- slices.Compact of sides, by value. -/
-- NEWM
namespace Go.Proofs.YtlblimbelfenaaaGreat
open Go Go.RowKit
set_option maxRecDepth 100000
set_option maxHeartbeats 4000000 in
theorem compactS_v (l : List Sid2) (c : Nat) (hl : l.length ≤ 1000000) (hlc : l.length ≤ c) : ACalls Tryz.prog 74 [.o 0 0 l.length c] [.arr 70 2 c (sR l)] fun u H => u = .o 0 0 (compG l).length c ∧ H = [.arr 70 2 c (sR (compG l))] := by
  have e1 : (sR l).length = l.length := by simp
  refine acalls_of (N := 61) Tryz.func74 rfl rfl (by simp) fun E hE => ?_
  refine WA ?_
  refine WA ?_
  refine aw_if rfl (fun hs => ?_) (fun hs => ?_)
  · have hc : compG l = l := by
      match l, hs with
      | [], _ => rfl
      | [x], _ => rfl
      | _ :: _ :: _, h => simp at h; omega
    refine WA ?_
    exact aret_o [some 0] (fun _ => [.arr 70 2 c (sR l)]) rfl rfl rfl rfl rfl (by decide) (ZNK rfl) ZCH (fun _ => ⟨by rw [hc], by rw [hc]⟩)
  refine ZZ ?_
  refine WA ?_
  refine aw_loopw (fun m F H => ∃ (k : Nat), m + k = l.length ∧ 1 ≤ k ∧ compG (l.take k) = l.take k ∧ F = [(0, .o 0 0 l.length c), (3, .c (I k))] ∧ H = [.arr 70 2 c (sR l)]) ?_ ?_
  · refine wk_of [some 0] (fun _ => [(0, .o 0 0 l.length c), (3, .c (I (1 : Nat)))]) (fun _ => [.arr 70 2 c (sR l)]) (by decide) (ZNL hE) ZCF ZCH (fun _ => ?_)
    refine ⟨l.length - 1, 1, by omega, by omega, ?_, rfl, rfl⟩
    match l, hs with
    | [], h => simp at h
    | x :: l, _ => rfl
  rintro m F H ⟨k, hk, hk1, hcp, rfl, rfl⟩
  refine WA ?_
  refine aw_if rfl (fun hlt => ?_) (fun hge => ?_)
  · obtain ⟨k, rfl⟩ : ∃ q, k = q + 1 := ⟨k - 1, by omega⟩
    obtain ⟨x, hx⟩ : ∃ x, l[k + 1]? = some x := ⟨_, List.getElem?_eq_getElem (by omega)⟩
    obtain ⟨y, hy⟩ : ∃ y, l[k]? = some y := ⟨_, List.getElem?_eq_getElem (by omega)⟩
    have hst := compG_step hx hy
    obtain ⟨xf, xt⟩ := x
    obtain ⟨yf, yt⟩ := y
    have hrx : (sR l)[0 + (k + 1)]? = some [I xf, I xt] := by rw [Nat.zero_add, List.getElem?_map, hx]; rfl
    have hry : (sR l)[0 + k]? = some [I yf, I yt] := by rw [Nat.zero_add, List.getElem?_map, hy]; rfl
    refine ZZ ?_
    refine aw_regionT [(0, none), (1, none), (2, none), (3, none), (4, none), (5, none), (6, none), (7, none), (8, none), (9, none)] hMixed (by kernel_rfl) ?_
    iterate 7 refine WX2 ?_
    refine ZT rfl (rd_index (i := k) rfl (KE (t := 57) rfl) rfl rfl rfl (by omega) (by omega)) ?_
    refine WQ ?_
    refine aw_if rfl (fun heq => ?_) (fun hne => ?_)
    · generalize hK : k + 1 = K at *
      refine ZR ?_
      iterate 2 refine WX1 ?_
      refine ZA (rd_slice (l := K) (h := l.length) rfl (KE (t := 57) rfl) rfl rfl (.inr ⟨_, _, _, rfl, rfl, rfl⟩) (.inl ⟨rfl, rfl⟩) (by omega) (by omega) (by omega)) ?_
      refine WE ?_
      refine WA ?_
      rw [if_pos ((sid_eq _ _).2 ⟨heq.1.symm, heq.2.symm⟩)] at hst
      refine aw_loopw (fun m F H => ∃ (d i : Nat) (r : List Sid2), m + d = l.length - K ∧ 1 ≤ d ∧ i + 1 ≤ K + d ∧ r.length = l.length ∧ r.take i = compG (l.take (K + d)) ∧ (compG (l.take (K + d))).length = i ∧ (∀ q, K + d ≤ q + 1 → r[q]? = l[q]?) ∧ F = [(0, .o 0 0 l.length c), (3, .c (I i)), (4, .o 0 (0 + K) (l.length - K) (c - K)), (5, .c (I d))] ∧ H = [.arr 70 2 c (sR r)]) ?_ ?_
      · refine wk_of [some 0] (fun _ => [(0, .o 0 0 l.length c), (3, .c (I K)), (4, .o 0 (0 + K) (l.length - K) (c - K)), (5, .c (I (1 : Nat)))]) (fun _ => [.arr 70 2 c (sR l)]) (by decide) (ZNL hE) ZCF ZCH (fun _ => ?_)
        have hst' : compG (l.take (K + 1)) = l.take K := by rw [show K + 1 = k + 2 by omega, hst, hcp]
        exact ⟨l.length - K - 1, 1, K, l, by omega, by omega, by omega, rfl, by rw [hst'], by rw [hst', List.length_take]; omega, fun q _ => rfl, rfl, rfl⟩
      rintro m2 F H ⟨d, i, r, hm, hd, hi, hr, hti, htl, hq, rfl, rfl⟩
      refine WA ?_
      refine aw_if rfl (fun hlt2 => ?_) (fun hge2 => ?_)
      · obtain ⟨D, rfl⟩ : ∃ q, d = q + 1 := ⟨d - 1, by omega⟩
        obtain ⟨p, hp⟩ : ∃ p, l[K + D + 1]? = some p := ⟨_, List.getElem?_eq_getElem (by omega)⟩
        obtain ⟨o, ho⟩ : ∃ o, l[K + D]? = some o := ⟨_, List.getElem?_eq_getElem (by omega)⟩
        have hst2 := compG_step hp ho
        rw [show K + D + 2 = K + (D + 1 + 1) by omega, show K + D + 1 = K + (D + 1) by omega] at hst2
        obtain ⟨pf, pt⟩ := p
        obtain ⟨of_, ot⟩ := o
        have h7 : (sR r)[0 + K + (D + 1)]? = some [I pf, I pt] := by rw [Nat.zero_add, List.getElem?_map, show K + (D + 1) = K + D + 1 by omega, hq _ (by omega), hp]; rfl
        have h8 : (sR r)[0 + K + D]? = some [I of_, I ot] := by rw [Nat.zero_add, List.getElem?_map, hq _ (by omega), ho]; rfl
        obtain ⟨u0, hu0⟩ : ∃ u : Sid2, (sR r)[0 + i]? = some [I u.f, I u.t] := ⟨r[i]'(by omega), by rw [Nat.zero_add, List.getElem?_map, List.getElem?_eq_getElem (by omega)]; rfl⟩
        refine ZZ ?_
        refine aw_regionT [(0, none), (1, none), (2, none), (3, none), (4, none), (5, none), (6, none), (7, none), (8, none), (9, none)] hMixed (by kernel_rfl) ?_
        iterate 7 refine WX2 ?_
        refine ZT rfl (rd_index (i := D) rfl (KE (t := 57) rfl) rfl rfl rfl (by omega) (by omega)) ?_
        refine WQ ?_
        refine aw_if rfl (fun hne => ?_) (fun heq2 => ?_)
        · rw [if_neg (fun h => hne ⟨((sid_eq _ _).1 h).1.symm, ((sid_eq _ _).1 h).2.symm⟩)] at hst2
          refine WA ?_
          refine WA ?_
          refine WA ?_
          refine wk_of [some 0] (fun _ => [(0, .o 0 0 l.length c), (3, .c (I (i + 1 : Nat))), (4, .o 0 (0 + K) (l.length - K) (c - K)), (5, .c (I (D + 1 + 1 : Nat)))]) (fun _ => [.arr 70 2 c (sR (r.set i ⟨pf, pt⟩))]) (by decide) (ZNL hE) ZCF ZCH (fun _ => ?_)
          refine ⟨m2 - 1, by omega, D + 1 + 1, i + 1, r.set i ⟨pf, pt⟩, by omega, by omega, by omega, by simpa using hr, ?_, ?_, fun q hqq => ?_, rfl, rfl⟩
          · rw [hst2, ← hti, List.take_add_one, List.getElem?_set_self (by omega), List.take_set_of_le (Nat.le_refl _)]; rfl
          · rw [hst2, List.length_append, htl]; rfl
          · rw [List.getElem?_set_ne (by omega)]; exact hq q (by omega)
        · have heq3 : pf = of_ ∧ pt = ot := Decidable.not_not.1 heq2
          rw [if_pos ((sid_eq _ _).2 ⟨heq3.1.symm, heq3.2.symm⟩)] at hst2
          refine ZZ ?_
          refine WA ?_
          refine wk_of [some 0] (fun _ => [(0, .o 0 0 l.length c), (3, .c (I i)), (4, .o 0 (0 + K) (l.length - K) (c - K)), (5, .c (I (D + 1 + 1 : Nat)))]) (fun _ => [.arr 70 2 c (sR r)]) (by decide) (ZNL hE) ZCF ZCH (fun _ => ?_)
          exact ⟨m2 - 1, by omega, D + 1 + 1, i, r, by omega, by omega, by omega, hr, by rw [hst2]; exact hti, by rw [hst2]; exact htl, fun q hqq => hq q (by omega), rfl, rfl⟩
      refine ZZ ?_
      have hdd : d = l.length - K := by omega
      have hal : l.take (K + d) = l := List.take_of_length_le (by omega)
      rw [hal] at hti htl
      have htr : (sR r).take i = sR (compG l) := by rw [← hti]; simp [sR]
      refine aw_trunc (b := 0) i rfl ?_
      simp only [List.set_cons_zero]
      rw [htr]
      have hcl := compG_len l
      refine ZR ?_
      iterate 2 refine WX1 ?_
      refine ZA (rd_slicex (l := i) (h := l.length) rfl (KE (t := 57) rfl) rfl rfl (.inr ⟨_, _, _, rfl, rfl, rfl⟩) (.inl ⟨rfl, rfl⟩) (by omega) (by omega) (by omega)) ?_
      refine al_ef rfl (ef_clear rfl rfl (KE (t := 57) rfl) (KZ (t := 70) rfl) rfl rfl rfl rfl (by simp; omega)) ?_
      rintro _ _ ⟨rfl, rfl⟩
      refine WE ?_
      refine ZR ?_
      iterate 2 refine WX1 ?_
      refine ZA (rd_slicex (l := 0) (h := i) rfl (KE (t := 57) rfl) rfl rfl (.inl ⟨rfl, rfl⟩) (.inr ⟨_, _, _, rfl, rfl, rfl⟩) (by omega) (by omega) (by omega)) ?_
      refine WE ?_
      exact aret_o (k' := (compG l).length) (c := c) [some 0] (fun _ => [.arr 70 2 c (sR (compG l))]) rfl rfl rfl (by omega) rfl (by decide) (ZNK rfl) ZCH (fun _ => ⟨rfl, rfl⟩)
    · rw [if_neg (fun h => hne ⟨((sid_eq _ _).1 h).1.symm, ((sid_eq _ _).1 h).2.symm⟩)] at hst
      refine ZZ ?_
      refine WA ?_
      refine wk_of [some 0] (fun _ => [(0, .o 0 0 l.length c), (3, .c (I (k + 1 + 1 : Nat)))]) (fun _ => [.arr 70 2 c (sR l)]) (by decide) (ZNL hE) ZCF ZCH (fun _ => ?_)
      refine ⟨m - 1, by omega, k + 1 + 1, by omega, by omega, ?_, rfl, rfl⟩
      rw [hst, hcp, List.take_add_one (i := k + 1), hx]; rfl
  have hkk : k = l.length := by omega
  rw [hkk, List.take_of_length_le (Nat.le_refl _)] at hcp
  refine WA ?_
  exact aret_o [some 0] (fun _ => [.arr 70 2 c (sR l)]) rfl rfl rfl rfl rfl (by decide) (ZNK rfl) ZCH (fun _ => ⟨by rw [hcp], by rw [hcp]⟩)
end Go.Proofs.YtlblimbelfenaaaGreat
