/- The lines of one row, by value: DeleteFunc. -/
import Derived.Test.YtfilfijammemfaaGreatDoorQbn
set_option linter.unusedSimpArgs false
set_option linter.unusedVariables false
/- The lines of one row, by value: DeleteFunc. -/
-- NEWM
namespace Go.Proofs.YtfilfijammemfaaGreatDoor
open Go Go.RowKit
set_option maxRecDepth 100000
def rwL (row : Int) (l : List Lin) : List Lin := l.filter fun x => decide (x.1 = row)
set_option maxHeartbeats 4000000 in
theorem delLn_v (l : List Lin) (c : Nat) (row : Int) (hl : l.length ≤ 1000000) (hlc : l.length ≤ c) : ACalls Tryz.prog 55 [.o 0 0 l.length c, .f (.func 57) [.p 1 0 0]] [.arr 96 3 c (lnR l), .box [.c (I row)]] fun u H => u = .o 0 0 (rwL row l).length c ∧ H = [.arr 96 3 c (lnR (rwL row l)), .box [.c (I row)]] := by
 refine acalls_of (N := 42) Tryz.func55 rfl rfl (by simp) fun E hE => ?_
 refine WA ?_
 refine WR ?_
 refine al_ef rfl (ef_callp [0, 1] (fun _ => [.arr 96 3 c (lnR l), .box [.c (I row)]]) false (fun _ => idxLn_v l c row hl) rfl .fn rfl (by decide) (by kernel_rfl) rfl ZCH (by decide) ZCH (by simp)) ?_
 rintro F1 H1 ⟨_, _, _, _, ⟨k0, rfl, rfl, hk1, hk2, hk3⟩, hF, hH⟩
 rw [killF_nil] at hF; (refine NSU hF hH ?_; clear hF hH; rintro rfl rfl)
 refine WE ?_
 by_cases hkl : k0 < l.length
 ·rw [if_pos hkl]
  have hne1 : ¬ (k0 : Int) = -1 := by omega
  refine WA ?_
  refine aw_cond_f rfl ?_
  refine ZZ ?_
  refine WA ?_
  refine aw_loopw (fun m F H => ∃ (i j : Nat) (r : List Lin), m + j = l.length ∧ i + 1 ≤ j ∧ r.length = l.length ∧ r.take i = rwL row (l.take j) ∧ (rwL row (l.take j)).length = i ∧ (∀ p, j ≤ p → r[p]? = l[p]?) ∧ F = [(0, .o 0 0 l.length c), (1, .f (.func 57) [.p 1 0 0]), (5, .c (I i)), (6, .c (I j))] ∧ H = [.arr 96 3 c (lnR r), .box [.c (I row)]]) ?_ ?_
  ·refine wk_of [some 0, some 1] (fun _ => [(0, .o 0 0 l.length c), (1, .f (.func 57) [.p 1 0 0]), (5, .c (I k0)), (6, .c (I (k0 + 1 : Nat)))]) (fun _ => [.arr 96 3 c (lnR l), .box [.c (I row)]]) (by decide) (ZNL hE) ZCF ZCH (fun _ => ?_)
   have hfl : rwL row (l.take (k0 + 1)) = l.take k0 := by
    obtain ⟨x, hx⟩ : ∃ x, l[k0]? = some x := ⟨_, List.getElem?_eq_getElem hkl⟩
    have h3 := hk3 x hx
    unfold rwL
    rw [List.take_add_one, hx, List.filter_append, List.filter_eq_self.2 fun y hy => by simpa using hk2 y hy]
    simp [h3]
   refine ⟨l.length - (k0 + 1), k0, k0 + 1, l, by omega, by omega, rfl, hfl.symm, by rw [hfl, List.length_take]; omega, fun p _ => rfl, rfl, rfl⟩
  rintro m F H ⟨i, j, r, hm, hij, hrl, hti, htl, hpq, rfl, rfl⟩
  refine WA ?_
  refine aw_if rfl (fun hlt => ?_) (fun hge => ?_)
  ·obtain ⟨⟨x1, x2, x3⟩, hx⟩ : ∃ x, l[j]? = some x := ⟨_, List.getElem?_eq_getElem (by omega)⟩
   have hrow : (lnR r)[0 + j]? = some [I x1, I x2, I x3] := by rw [Nat.zero_add, List.getElem?_map, hpq j (Nat.le_refl _), hx]; rfl
   obtain ⟨⟨u1, u2, u3⟩, hu⟩ : ∃ x, r[i]? = some x := ⟨_, List.getElem?_eq_getElem (by omega)⟩
   have hu0 : (lnR r)[0 + i]? = some [I u1, I u2, I u3] := by rw [Nat.zero_add, List.getElem?_map, hu]; rfl
   obtain ⟨bb, hbb⟩ : ∃ b, decide (x1 ≠ row) = b := ⟨_, rfl⟩
   have hst : rwL row (l.take (j + 1)) = rwL row (l.take j) ++ (if bb = true then [] else [(x1, x2, x3)]) := by
    unfold rwL
    rw [List.take_add_one, hx, List.filter_append]
    congr 1
    rw [← hbb]
    by_cases e : x1 = row <;> simp [e]
   refine WA ?_
   refine WR ?_
   refine al_ef rfl (ef_call [1] (fun _ => [.box [.c (I row)]]) false (fun _ => zz1_v x1 x2 x3 row) rfl (.clo rfl) rfl (by decide) (by kernel_rfl) rfl ZCH (by decide) ZCH (by simp)) ?_
   rintro F1 H1 ⟨_, _, _, _, ⟨rfl, rfl⟩, hF, hH⟩
   rw [hbb] at hF
   (refine NSU hF hH ?_; clear hF hH; rintro rfl rfl)
   refine WE ?_
   cases bb with
   | true =>
    rw [if_pos rfl, List.append_nil] at hst
    refine aw_cond_f rfl ?_
    refine ZZ ?_
    refine WA ?_
    refine wk_of [some 0, some 1] (fun _ => [(0, .o 0 0 l.length c), (1, .f (.func 57) [.p 1 0 0]), (5, .c (I i)), (6, .c (I (j + 1 : Nat)))]) (fun _ => [.arr 96 3 c (lnR r), .box [.c (I row)]]) (by decide) (ZNL hE) ZCF ZCH (fun _ => ?_)
    exact ⟨m - 1, by omega, i, j + 1, r, by omega, by omega, hrl, by rw [hst]; exact hti, by rw [hst]; exact htl, fun p hp => hpq p (by omega), rfl, rfl⟩
   | false =>
    rw [if_neg (by simp)] at hst
    have hm2 : lnR (r.set i (x1, x2, x3)) = (lnR r).set (0 + i) [I x1, I x2, I x3] := by rw [Nat.zero_add]; exact List.map_set
    refine aw_cond_t rfl ?_
    refine WA ?_
    refine WA ?_
    refine WA ?_
    refine wk_of [some 0, some 1] (fun _ => [(0, .o 0 0 l.length c), (1, .f (.func 57) [.p 1 0 0]), (5, .c (I (i + 1 : Nat))), (6, .c (I (j + 1 : Nat)))]) (fun _ => [.arr 96 3 c (lnR (r.set i (x1, x2, x3))), .box [.c (I row)]]) (by decide) (ZNL hE) ZCF (by rw [hm2]; exact ZCH) (fun _ => ?_)
    refine ⟨m - 1, by omega, i + 1, j + 1, r.set i (x1, x2, x3), by omega, by omega, by simpa using hrl, ?_, ?_, fun p hp => ?_, rfl, rfl⟩
    ·rw [hst, ← hti, List.take_add_one, List.getElem?_set_self (by omega), List.take_set_of_le (Nat.le_refl _)]; rfl
    ·rw [hst, List.length_append, htl]; rfl
    ·rw [List.getElem?_set_ne (by omega)]; exact hpq p (by omega)
  have hjl : j = l.length := by omega
  rw [hjl, List.take_length] at hti htl
  have htr : (lnR r).take i = lnR (rwL row l) := by rw [← hti]; exact List.map_take.symm
  refine ZZ ?_
  refine aw_trunc (b := 0) i rfl ?_
  simp only [List.set_cons_zero]
  rw [htr]
  refine ZR ?_
  iterate 2 refine WX1 ?_
  refine ZA (rd_slicex (l := i) (h := l.length) rfl (KE (t := 93) rfl) rfl rfl (.inr ⟨_, _, _, rfl, rfl, rfl⟩) (.inl ⟨rfl, rfl⟩) (by omega) (by omega) (by omega)) ?_
  refine al_ef rfl (ef_clear rfl rfl (KE (t := 93) rfl) (KZ (t := 96) rfl) rfl rfl rfl rfl (by simp; omega)) ?_
  rintro _ _ ⟨rfl, rfl⟩
  refine WE ?_
  refine ZR ?_
  iterate 2 refine WX1 ?_
  refine ZA (rd_slicex (l := 0) (h := i) rfl (KE (t := 93) rfl) rfl rfl (.inl ⟨rfl, rfl⟩) (.inr ⟨_, _, _, rfl, rfl, rfl⟩) (by omega) (by omega) (by omega)) ?_
  refine WE ?_
  exact aret_o (k' := (rwL row l).length) (c := c) [some 0, some 1] (fun _ => [.arr 96 3 c (lnR (rwL row l)), .box [.c (I row)]]) rfl rfl rfl (by omega) rfl (by decide) (ZNK rfl) ZCH (fun _ => ⟨rfl, rfl⟩)
 ·rw [if_neg hkl]
  have hall : rwL row l = l := by
   unfold rwL
   refine List.filter_eq_self.2 fun y hy => ?_
   have := hk2 y (by rw [List.take_of_length_le (by omega)]; exact hy)
   simpa using this
  refine WA ?_
  refine aw_cond_t rfl ?_
  refine WA ?_
  exact aret_o [some 0, some 1] (fun _ => [.arr 96 3 c (lnR l), .box [.c (I row)]]) rfl rfl rfl rfl rfl (by decide) (ZNK rfl) ZCH (fun _ => ⟨by rw [hall], by rw [hall]⟩)
end Go.Proofs.YtfilfijammemfaaGreatDoor
