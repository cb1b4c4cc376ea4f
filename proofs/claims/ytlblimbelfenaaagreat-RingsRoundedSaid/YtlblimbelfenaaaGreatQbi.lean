/- A point among points; what the reference finds wrong with a ring: plain, and Contains by value. -/
import Derived.Test.YtlblimbelfenaaaGreatQbh
import Derived.Test.YtlblimbelfenaaaGreatQbd
set_option linter.unusedSimpArgs false
set_option linter.unusedVariables false
/- What is wrong with a region whose points are near, by value. -/
-- NEWM
namespace Go.Proofs.YtlblimbelfenaaaGreat
open Go Go.RowKit
set_option maxRecDepth 100000
theorem apaB_comm (a b c d : Int) : apaB a b c d = apaB c d a b := by unfold apaB; rw [Bool.or_comm]
theorem metB_comm (a b c d : P2) : metB a b c d = metB c d a b := by
 unfold metB
 rw [apaB_comm a.x, apaB_comm a.y, Bool.and_comm (acrB (trn a b c) (trn a b d))]
theorem metB_far {a b c d : P2} (h : max a.x b.x < min c.x d.x) : metB a b c d = false := by
 have : apaB a.x b.x c.x d.x = true := by unfold apaB; rw [decide_eq_true h, Bool.true_or]
 unfold metB
 rw [this]; rfl
def hitB (x y : Sd5) : Bool := decide (x.r ≠ y.r) && metB x.a x.b y.a y.b
theorem hitB_comm (x y : Sd5) : hitB x y = hitB y x := by
 unfold hitB
 rw [metB_comm]
 congr 1
 rw [decide_eq_decide]
 exact ⟨fun h e => h e.symm, fun h e => h e.symm⟩
theorem hitB_self (x : Sd5) : hitB x x = false := by simp [hitB]
def cnf (l : List Sd5) : Bool := l.any fun x => l.any fun y => hitB x y
theorem cnf_iff {l : List Sd5} : cnf l = true ↔ ∃ x ∈ l, ∃ y ∈ l, hitB x y = true := by simp [cnf]
theorem cnf_perm {l l' : List Sd5} (h : l'.Perm l) : cnf l' = cnf l := by
 rw [Bool.eq_iff_iff, cnf_iff, cnf_iff]
 exact ⟨fun ⟨x, hx, y, hy, e⟩ => ⟨x, h.subset hx, y, h.subset hy, e⟩, fun ⟨x, hx, y, hy, e⟩ => ⟨x, h.symm.subset hx, y, h.symm.subset hy, e⟩⟩
theorem cnf_no {l : List Sd5} (h : ∀ (i j : Nat) (x y : Sd5), i < j → l[i]? = some x → l[j]? = some y → hitB x y = false) : cnf l = false := by
 cases e : cnf l with
 | false => rfl
 | true =>
  obtain ⟨x, hx, y, hy, hh⟩ := cnf_iff.1 e
  obtain ⟨i, hi, ex⟩ := List.getElem_of_mem hx
  obtain ⟨j, hj, ey⟩ := List.getElem_of_mem hy
  have gx : l[i]? = some x := by rw [List.getElem?_eq_getElem hi, ex]
  have gy : l[j]? = some y := by rw [List.getElem?_eq_getElem hj, ey]
  rcases Nat.lt_trichotomy i j with h1 | h1 | h1
  ·rw [h i j x y h1 gx gy] at hh; cases hh
  ·subst h1
   rw [gx] at gy
   injection gy with gy
   subst gy
   rw [hitB_self] at hh; cases hh
  ·rw [hitB_comm, h j i y x h1 gy gx] at hh; cases hh
def tot (rs : List (List P2)) : Nat := (rs.map List.length).sum
theorem tot_next {rs : List (List P2)} {k : Nat} {r : List P2} (h : rs[k]? = some r) : tot (rs.take (k + 1)) = tot (rs.take k) + r.length := by
 unfold tot
 rw [take_snoc h]; simp
theorem tot_mem : ∀ {rs : List (List P2)} {r : List P2}, r ∈ rs → r.length ≤ tot rs
 | r :: rs, x, h => by
  unfold tot
  rw [List.map_cons, List.sum_cons]
  rcases List.mem_cons.1 h with rfl | h
  ·omega
  ·have := tot_mem h
   unfold tot at this
   omega
def regF (rs : List (List P2)) : Int := if 100 < rs.length ∨ 2000 < tot rs then 2 else if fst0 (rs.map chkF) ≠ 0 then fst0 (rs.map chkF) else if cnf (allS rs rs.length) = true then 13 else 0
theorem sds5_in {r : List P2} {i : Int} (h : ∀ q ∈ r, q.in) : ∀ s ∈ sds5 r i, s.a.in ∧ s.b.in := fun s hs => by
 obtain ⟨k, hk, rfl⟩ := List.mem_map.1 hs
 have hk := List.mem_range.1 hk
 exact ⟨ptA_in h hk, ptA_in h (Nat.mod_lt _ (by omega))⟩
theorem allS_in {rs : List (List P2)} (h : ∀ r ∈ rs, ∀ q ∈ r, q.in) : ∀ k, ∀ s ∈ allS rs k, s.a.in ∧ s.b.in
 | 0, s, hs => by cases hs
 | k + 1, s, hs => by
  rcases List.mem_append.1 hs with hs | hs
  ·exact allS_in h k s hs
  ·refine sds5_in (fun q hq => ?_) s hs
   rw [List.getD_eq_getElem?_getD] at hq
   cases e : rs[k]? with
   | none => rw [e] at hq; cases hq
   | some r => rw [e] at hq; exact h r (List.mem_of_getElem? e) q hq
set_option maxHeartbeats 8000000 in
theorem checkregion_v (A : List (Value × List P2)) (v : Value) (hA : A.length ≤ 100000) (hl : ∀ p ∈ A, p.2.length ≤ 100000 ∧ ∀ q ∈ p.2, q.in) : ACalls Tryz.prog 113 [.c (.r v (rgR A))] [] fun u H => u = .c (I (regF (A.map Prod.snd))) ∧ H = [] := by
 have e1 : (rgR A).length = A.length := by simp
 have eA : (A.map Prod.snd).length = A.length := by simp
 refine acalls_of (N := 97) Tryz.func113 rfl rfl (by simp) fun E hE => ?_
 refine WA ?_
 refine WA ?_
 refine WA ?_
 refine aw_loopw (fun m F H => ∃ (k : Nat), m + k = A.length ∧ tot ((A.map Prod.snd).take k) ≤ 100000 * k ∧ F = [(0, .c (.r v (rgR A))), (3, .c (I (tot ((A.map Prod.snd).take k)))), (14, .c (.r v (rgR A))), (15, .c (I (rgR A).length)), (16, .c (I k))] ∧ H = []) ?_ ?_
 ·refine wk_of [] (fun _ => [(0, .c (.r v (rgR A))), (3, .c (I (tot ((A.map Prod.snd).take 0)))), (14, .c (.r v (rgR A))), (15, .c (I (rgR A).length)), (16, .c (I (0 : Nat)))]) (fun _ => _) (by decide) (ZNL hE) ZCF (fun _ => .nil) (fun _ => ?_)
  exact ⟨A.length, 0, by omega, by simp [tot], rfl, rfl⟩
 rintro m F H ⟨k, hk, ht, rfl, rfl⟩
 refine WA ?_
 refine aw_if rfl (fun hlt => ?_) (fun hge => ?_)
 ·obtain ⟨p, hp⟩ : ∃ z, A[k]? = some z := ⟨_, List.getElem?_eq_getElem (by omega)⟩
  have hpl := (hl p (List.mem_of_getElem? hp)).1
  have hnx := tot_next (rs := A.map Prod.snd) (k := k) (r := p.2) (by rw [List.getElem?_map, hp]; rfl)
  obtain ⟨qv, r⟩ := p
  simp only at hpl hnx
  have hrow : (rgR A)[k]? = some [.r qv (pR r)] := by rw [List.getElem?_map, hp]; rfl
  have e2 : (pR r).length = r.length := by simp
  generalize tot ((A.map Prod.snd).take k) = T at hnx ht ⊢
  refine WA ?_
  refine WA ?_
  refine WA ?_
  refine wk_of [] (fun _ => [(0, .c (.r v (rgR A))), (3, .c (I (T + r.length : Nat))), (14, .c (.r v (rgR A))), (15, .c (I (rgR A).length)), (16, .c (I (k + 1 : Nat)))]) (fun _ => _) (by decide) (ZNL hE) ZCF (fun _ => .nil) (fun _ => ?_)
  exact ⟨m - 1, by omega, k + 1, by omega, by omega, by rw [hnx], rfl⟩
 obtain rfl : k = A.length := by omega
 rw [List.take_of_length_le (by simp)]
 rw [List.take_of_length_le (by simp)] at ht
 have htl : ∀ p ∈ A, p.2.length ≤ tot (A.map Prod.snd) := fun p hp => tot_mem (List.mem_map.2 ⟨p, hp, rfl⟩)
 refine ZZ ?_
 have hr1 : (100 < A.length ∨ 2000 < tot (A.map Prod.snd)) → regF (A.map Prod.snd) = 2 := fun h => by rw [regF, if_pos (by rw [eA]; exact h)]
 have hr2 : ¬ (100 < A.length ∨ 2000 < tot (A.map Prod.snd)) → regF (A.map Prod.snd) = if fst0 ((A.map Prod.snd).map chkF) ≠ 0 then fst0 ((A.map Prod.snd).map chkF) else if cnf (allS (A.map Prod.snd) A.length) = true then 13 else 0 := fun h => by rw [regF, if_neg (by rw [eA]; exact h), eA]
 generalize tot (A.map Prod.snd) = T at ht htl hr1 hr2 ⊢
 by_cases hb1 : 100 < A.length
 ·refine WA ?_
  refine aw_cond_t rfl ?_
  refine WA ?_
  exact aret_1 [] _ rfl rfl rfl (by decide) (ZNK rfl) (fun _ => .nil) ⟨by rw [hr1 (.inl hb1)], rfl⟩
 refine WA ?_
 refine aw_if rfl (fun hb2 => ?_) (fun hb2 => ?_)
 ·refine WA ?_
  exact aret_1 [] _ rfl rfl rfl (by decide) (ZNK rfl) (fun _ => .nil) ⟨by rw [hr1 (.inr (by omega))], rfl⟩
 have hl2 : ∀ p ∈ A, p.2.length ≤ 2000 := fun p hp => Nat.le_trans (htl p hp) (by omega)
 rw [hr2 (by omega)]
 clear hr1 hr2
 refine ZZ ?_
 refine WA ?_
 refine aw_loopw (fun m F H => ∃ (k : Nat), m + k = A.length ∧ fst0 (((A.map Prod.snd).map chkF).drop k) = fst0 ((A.map Prod.snd).map chkF) ∧ F = [(0, .c (.r v (rgR A))), (32, .c (.r v (rgR A))), (33, .c (I (rgR A).length)), (34, .c (I k))] ∧ H = []) ?_ ?_
 ·refine wk_of [] (fun _ => [(0, .c (.r v (rgR A))), (32, .c (.r v (rgR A))), (33, .c (I (rgR A).length)), (34, .c (I (0 : Nat)))]) (fun _ => _) (by decide) (ZNL hE) ZCF (fun _ => .nil) (fun _ => ?_)
  exact ⟨A.length, 0, by omega, rfl, rfl, rfl⟩
 rintro m F H ⟨k, hk, hf, rfl, rfl⟩
 refine WA ?_
 refine aw_if rfl (fun hlt => ?_) (fun hge => ?_)
 ·obtain ⟨p, hp⟩ : ∃ z, A[k]? = some z := ⟨_, List.getElem?_eq_getElem (by omega)⟩
  obtain ⟨hpl, hri⟩ := hl p (List.mem_of_getElem? hp)
  have hfd := fst0_drop (l := (A.map Prod.snd).map chkF) (k := k) (n := chkF p.2) (by rw [List.getElem?_map, List.getElem?_map, hp]; rfl)
  obtain ⟨qv, r⟩ := p
  simp only at hpl hri hfd
  have hrow : (rgR A)[k]? = some [.r qv (pR r)] := by rw [List.getElem?_map, hp]; rfl
  refine WA ?_
  refine WR ?_
  refine al_ef rfl (ef_call0 false (fun _ => chkring_v r qv (by omega) hri) rfl .fn rfl (by decide) (by kernel_rfl) rfl (fun _ => C0 rfl) (by simp)) ?_
  rintro _ _ ⟨_, _, _, ⟨rfl, rfl⟩, hF, hH⟩
  (refine NST hF hH ?_; clear hF hH; rintro rfl rfl)
  refine WE ?_
  refine WA ?_
  refine aw_if rfl (fun hne => ?_) (fun heq => ?_)
  ·refine WA ?_
   have hv : fst0 ((A.map Prod.snd).map chkF) = chkF r := by rw [← hf, hfd, if_neg hne]
   exact aret_1 [] _ rfl rfl rfl (by decide) (ZNK rfl) (fun _ => .nil) ⟨by rw [hv, if_pos hne], rfl⟩
  ·refine ZZ ?_
   refine WA ?_
   refine wk_of [] (fun _ => [(0, .c (.r v (rgR A))), (32, .c (.r v (rgR A))), (33, .c (I (rgR A).length)), (34, .c (I (k + 1 : Nat)))]) (fun _ => _) (by decide) (ZNL hE) ZCF (fun _ => .nil) (fun _ => ?_)
   exact ⟨m - 1, by omega, k + 1, by omega, by rw [← hf, hfd, if_pos (by omega)], rfl, rfl⟩
 have hz : fst0 ((A.map Prod.snd).map chkF) = 0 := by rw [← hf, List.drop_eq_nil_of_le (by simp; omega)]; rfl
 rw [hz, if_neg (by omega)]
 refine ZZ ?_
 refine WR ?_
 refine al_ef rfl (ef_call [] (fun _ => []) false (fun _ => sides5_v A v (by omega) hl2) rfl .fn rfl (by decide) (by kernel_rfl) rfl (fun _ => C0 rfl) (by decide) (fun _ => .nil) (by simp)) ?_
 rintro F1 H1 ⟨_, _, _, _, ⟨c, L, hL1, hL2, hL, rfl, rfl⟩, hF, hH⟩
 (refine NSU hF hH ?_; clear hF hH; rintro rfl rfl)
 refine WE ?_
 rw [← hL]
 refine WR ?_
 refine al_ef rfl (ef_callp [0] (fun _ => [.arr 203 5 c (s5R L)]) false (fun _ => sort5_v L c (by omega)) rfl .fn rfl (by decide) (by kernel_rfl) rfl ZCH (by decide) (fun _ => .arr rfl rfl .nil) (by simp)) ?_
 rintro F1 H1 ⟨_, _, _, _, ⟨T, rfl, rfl, hTp, hTs⟩, hF, hH⟩
 rw [killF_nil] at hF; (refine NSU hF hH ?_; clear hF hH; rintro rfl rfl)
 refine WE ?_
 have hTl := hTp.length_eq
 rw [← cnf_perm hTp]
 rw [← hTl]
 have hTi : ∀ s ∈ T, s.a.in ∧ s.b.in := fun s hs => by
  have := hTp.subset hs
  rw [hL] at this
  refine allS_in (fun r hr q hq => ?_) _ s this
  obtain ⟨p, hp, rfl⟩ := List.mem_map.1 hr
  exact (hl p hp).2 q hq
 rw [← hTl] at hL1 hL2
 clear hTp hTl hL hz hf hge hk hb1 hb2 ht
 have eT : (s5R T).length = T.length := by simp
 refine WA ?_
 refine aw_loopw (fun m F H => ∃ (i : Nat), m + i = T.length ∧ (∀ (i' j : Nat) (x y : Sd5), i' < i → i' < j → T[i']? = some x → T[j]? = some y → hitB x y = false) ∧ F = [(9, .o 0 0 T.length c), (48, .o 0 0 T.length c), (49, .c (I T.length)), (50, .c (I i))] ∧ H = [.arr 203 5 c (s5R T)]) ?_ ?_
 ·refine wk_of [some 0] (fun _ => [(9, .o 0 0 T.length c), (48, .o 0 0 T.length c), (49, .c (I T.length)), (50, .c (I (0 : Nat)))]) (fun _ => _) (by decide) (ZNL hE) ZCF ZCH (fun _ => ?_)
  exact ⟨T.length, 0, by omega, fun _ _ _ _ h => absurd h (by omega), rfl, rfl⟩
 rintro m F H ⟨i, hi, hno, rfl, rfl⟩
 refine WA ?_
 refine aw_if rfl (fun hlt => ?_) (fun hge => ?_)
 ·obtain ⟨x, hx⟩ : ∃ z, T[i]? = some z := ⟨_, List.getElem?_eq_getElem (by omega)⟩
  obtain ⟨pxa, pxb⟩ := hTi x (List.mem_of_getElem? hx)
  obtain ⟨xr, ⟨xax, xay⟩, ⟨xbx, xby⟩⟩ := x
  simp only at pxa pxb
  have hrow : (s5R T)[i]? = some [I xr, I xax, I xay, I xbx, I xby] := by rw [List.getElem?_map, hx]; rfl
  refine ZR ?_
  refine WX1 ?_
  refine ZA (rd_index (i := i) rfl (KE (t := 199) rfl) rfl rfl rfl rfl (by omega)) ?_
  refine WE ?_
  refine aw_cut (fun F H => ∃ k0 n0 c0 : Nat, n0 + (i + 1) = T.length ∧ (n0 = 0 ∨ k0 = i + 1) ∧ F = [(9, .o 0 0 T.length c), (11, .p 1 0 0), (48, .o 0 0 T.length c), (49, .c (I T.length)), (50, .c (I i)), (58, .o 0 k0 n0 c0), (59, .c (I n0)), (60, .c (I (0 : Nat)))] ∧ H = [.arr 203 5 c (s5R T), .box [.c (I xr), .c (I xax), .c (I xay), .c (I xbx), .c (I xby)]]) ?_ ?_ wk_aw
  ·by_cases hc : i + 1 < c
   ·refine ZR ?_
    iterate 3 refine WX1 ?_
    refine ZA (rd_slicex (l := i + 1) (h := T.length) rfl (KE (t := 199) rfl) rfl rfl (.inr ⟨_, _, _, rfl, rfl, by omega⟩) (.inl ⟨rfl, rfl⟩) (by omega) (by omega) (by omega)) ?_
    refine WE ?_
    refine wk_of [some 0, some 1] (fun _ => [(9, .o 0 0 T.length c), (11, .p 1 0 0), (48, .o 0 0 T.length c), (49, .c (I T.length)), (50, .c (I i)), (58, .o 0 (0 + (i + 1)) (T.length - (i + 1)) (c - (i + 1))), (59, .c (I (T.length - (i + 1) : Nat))), (60, .c (I (0 : Nat)))]) (fun _ => _) (by decide) (ZNL hE) ZCF ZCH (fun _ => ?_)
    exact ⟨_, _, _, by omega, .inr (by omega), rfl, rfl⟩
   ·refine ZR ?_
    iterate 3 refine WX1 ?_
    refine ZA (rd_slicee (l := i + 1) (h := T.length) rfl (KE (t := 199) rfl) rfl rfl (.inr ⟨_, _, _, rfl, rfl, by omega⟩) (.inl ⟨rfl, rfl⟩) (by omega) (by omega)) ?_
    refine WE ?_
    refine wk_of [some 0, some 1] (fun _ => [(9, .o 0 0 T.length c), (11, .p 1 0 0), (48, .o 0 0 T.length c), (49, .c (I T.length)), (50, .c (I i)), (58, .o 0 0 0 0), (59, .c (I (0 : Nat))), (60, .c (I (0 : Nat)))]) (fun _ => _) (by decide) (ZNL hE) ZCF ZCH (fun _ => ?_)
    exact ⟨_, _, _, by omega, .inl rfl, rfl, rfl⟩
  rintro F H ⟨k0, n0, c0, hn0, hk0, rfl, rfl⟩
  refine ZZ ?_
  refine aw_loopw (fun m2 F H => ∃ (jj : Nat), m2 + jj = n0 ∧ (∀ (j : Nat) (y : Sd5), i < j → j < i + 1 + jj → T[j]? = some y → hitB ⟨xr, ⟨xax, xay⟩, ⟨xbx, xby⟩⟩ y = false) ∧ F = [(9, .o 0 0 T.length c), (11, .p 1 0 0), (48, .o 0 0 T.length c), (49, .c (I T.length)), (50, .c (I i)), (58, .o 0 k0 n0 c0), (59, .c (I n0)), (60, .c (I jj))] ∧ H = [.arr 203 5 c (s5R T), .box [.c (I xr), .c (I xax), .c (I xay), .c (I xbx), .c (I xby)]]) ?_ ?_
  ·refine wk_of [some 0, some 1] (fun _ => [(9, .o 0 0 T.length c), (11, .p 1 0 0), (48, .o 0 0 T.length c), (49, .c (I T.length)), (50, .c (I i)), (58, .o 0 k0 n0 c0), (59, .c (I n0)), (60, .c (I (0 : Nat)))]) (fun _ => _) (by decide) (ZNL hE) ZCF ZCH (fun _ => ?_)
   exact ⟨n0, 0, by omega, fun j y h1 h2 => absurd h1 (by omega), rfl, rfl⟩
  rintro m2 F H ⟨jj, hjj, hnx, rfl, rfl⟩
  have hdone : (∀ (j : Nat) (y : Sd5), i < j → T[j]? = some y → hitB ⟨xr, ⟨xax, xay⟩, ⟨xbx, xby⟩⟩ y = false) → ∀ (i' j : Nat) (x y : Sd5), i' < i + 1 → i' < j → T[i']? = some x → T[j]? = some y → hitB x y = false := fun h i' j x y h1 h2 gx gy => by
   by_cases e : i' = i
   ·subst e
    rw [hx] at gx
    injection gx with gx
    rw [← gx]; exact h j y h2 gy
   ·exact hno i' j x y (by omega) h2 gx gy
  refine WA ?_
  refine aw_if rfl (fun hlt2 => ?_) (fun hge2 => ?_)
  ·obtain rfl : k0 = i + 1 := by omega
   obtain ⟨y, hy⟩ : ∃ z, T[i + 1 + jj]? = some z := ⟨_, List.getElem?_eq_getElem (by omega)⟩
   obtain ⟨pya, pyb⟩ := hTi y (List.mem_of_getElem? hy)
   have hfar : max xax xbx < min y.a.x y.b.x → ∀ (j : Nat) (z : Sd5), i < j → T[j]? = some z → hitB ⟨xr, ⟨xax, xay⟩, ⟨xbx, xby⟩⟩ z = false := fun hf j z h1 gz => by
    by_cases h2 : j < i + 1 + jj
    ·exact hnx j z h1 h2 gz
    ·have hk : key5 y ≤ key5 z := by
      by_cases e : j = i + 1 + jj
      ·subst e; rw [hy] at gz; injection gz with gz; rw [gz]; exact Int.le_refl _
      ·obtain ⟨q1, q2⟩ := List.getElem?_eq_some_iff.1 hy
       obtain ⟨q3, q4⟩ := List.getElem?_eq_some_iff.1 gz
       rw [List.pairwise_iff_getElem] at hTs
       have := hTs (i + 1 + jj) j q1 q3 (by omega)
       rwa [q2, q4] at this
     unfold key5 at hk
     unfold hitB
     rw [metB_far (by simp only; omega), Bool.and_false]
   have hstep : hitB ⟨xr, ⟨xax, xay⟩, ⟨xbx, xby⟩⟩ y = false → ∀ (j : Nat) (z : Sd5), i < j → j < i + 1 + (jj + 1) → T[j]? = some z → hitB ⟨xr, ⟨xax, xay⟩, ⟨xbx, xby⟩⟩ z = false := fun hf j z h1 h2 gz => by
    by_cases e : j = i + 1 + jj
    ·subst e; rw [hy] at gz; injection gz with gz; rw [← gz]; exact hf
    ·exact hnx j z h1 (by omega) gz
   have hyes : hitB ⟨xr, ⟨xax, xay⟩, ⟨xbx, xby⟩⟩ y = true → cnf T = true := fun h => cnf_iff.2 ⟨_, List.mem_of_getElem? hx, y, List.mem_of_getElem? hy, h⟩
   obtain ⟨yr, ⟨yax, yay⟩, ⟨ybx, yby⟩⟩ := y
   simp only at pya pyb hfar
   have hrw : (s5R T)[i + 1 + jj]? = some [I yr, I yax, I yay, I ybx, I yby] := by rw [List.getElem?_map, hy]; rfl
   refine ZR ?_
   refine ZA (rd_index (i := jj) rfl (KE (t := 199) rfl) rfl rfl rfl rfl (by omega)) ?_
   refine WE ?_
   refine WA ?_
   refine aw_if rfl (fun hbr => ?_) (fun hnb => ?_)
   ·have h4 := hdone (hfar (by omega))
    refine ZZ ?_
    refine WA ?_
    refine wk_of [some 0] (fun _ => [(9, .o 0 0 T.length c), (48, .o 0 0 T.length c), (49, .c (I T.length)), (50, .c (I (i + 1 : Nat)))]) (fun _ => _) (by decide) (ZNL hE) ZCF ZCH (fun _ => ?_)
    exact ⟨m - 1, by omega, i + 1, by omega, h4, rfl, rfl⟩
   refine ZZ ?_
   refine aw_cut (fun F H => F = [(9, .o 0 0 T.length c), (11, .p 1 0 0), (48, .o 0 0 T.length c), (49, .c (I T.length)), (50, .c (I i)), (58, .o 0 (i + 1) n0 c0), (59, .c (I n0)), (60, .c (I jj)), (94, .c (B (hitB ⟨xr, ⟨xax, xay⟩, ⟨xbx, xby⟩⟩ ⟨yr, ⟨yax, yay⟩, ⟨ybx, yby⟩⟩)))] ∧ H = [.arr 203 5 c (s5R T), .box [.c (I xr), .c (I xax), .c (I xay), .c (I xbx), .c (I xby)]]) ?_ ?_ wk_aw
   ·by_cases hr : xr = yr
    ·have eh : hitB ⟨xr, ⟨xax, xay⟩, ⟨xbx, xby⟩⟩ ⟨yr, ⟨yax, yay⟩, ⟨ybx, yby⟩⟩ = false := by simp [hitB, hr]
     rw [eh]
     refine WR ?_
     first | refine ZS ?_ | (refine G1 rfl ?_; refine al_ef rfl (ef_call0 false (fun _ => meet_v ⟨xax, xay⟩ ⟨xbx, xby⟩ ⟨yax, yay⟩ ⟨ybx, yby⟩ pxa pxb pya pyb) rfl .fn rfl (by decide) (by kernel_rfl) rfl (fun _g => .cons (.aL (C0 rfl)) (.cons (.aL (C0 rfl)) (.cons (.aL (C0 rfl)) (.cons (.aL (C0 rfl)) .nil)))) (by simp)) ?_; rintro _ _ ⟨_, _, _, ⟨rfl, rfl⟩, hF, hH⟩; (refine NST hF hH ?_; clear hF hH; rintro rfl rfl)) | skip
     refine WE ?_
     all_goals (exact wk_of [some 0, some 1] (fun _ => [(9, .o 0 0 T.length c), (11, .p 1 0 0), (48, .o 0 0 T.length c), (49, .c (I T.length)), (50, .c (I i)), (58, .o 0 (i + 1) n0 c0), (59, .c (I n0)), (60, .c (I jj)), (94, .c (B false))]) (fun _ => _) (by decide) (ZNL hE) ZCF ZCH (fun _ => ⟨rfl, rfl⟩))
    ·have eh : hitB ⟨xr, ⟨xax, xay⟩, ⟨xbx, xby⟩⟩ ⟨yr, ⟨yax, yay⟩, ⟨ybx, yby⟩⟩ = metB ⟨xax, xay⟩ ⟨xbx, xby⟩ ⟨yax, yay⟩ ⟨ybx, yby⟩ := by simp [hitB, hr]
     rw [eh]
     refine WR ?_
     first | refine ZS ?_ | (refine G1 rfl ?_; refine al_ef rfl (ef_call0 false (fun _ => meet_v ⟨xax, xay⟩ ⟨xbx, xby⟩ ⟨yax, yay⟩ ⟨ybx, yby⟩ pxa pxb pya pyb) rfl .fn rfl (by decide) (by kernel_rfl) rfl (fun _g => .cons (.aL (C0 rfl)) (.cons (.aL (C0 rfl)) (.cons (.aL (C0 rfl)) (.cons (.aL (C0 rfl)) .nil)))) (by simp)) ?_; rintro _ _ ⟨_, _, _, ⟨rfl, rfl⟩, hF, hH⟩; (refine NST hF hH ?_; clear hF hH; rintro rfl rfl)) | skip
     refine WE ?_
     all_goals (exact wk_of [some 0, some 1] (fun _ => [(9, .o 0 0 T.length c), (11, .p 1 0 0), (48, .o 0 0 T.length c), (49, .c (I T.length)), (50, .c (I i)), (58, .o 0 (i + 1) n0 c0), (59, .c (I n0)), (60, .c (I jj)), (94, .c (B (metB ⟨xax, xay⟩ ⟨xbx, xby⟩ ⟨yax, yay⟩ ⟨ybx, yby⟩)))]) (fun _ => _) (by decide) (ZNL hE) ZCF ZCH (fun _ => ⟨rfl, rfl⟩))
   rintro F H ⟨rfl, rfl⟩
   refine ZZ ?_
   cases hh : hitB ⟨xr, ⟨xax, xay⟩, ⟨xbx, xby⟩⟩ ⟨yr, ⟨yax, yay⟩, ⟨ybx, yby⟩⟩ with
   | true =>
    refine aw_cond_t rfl ?_
    refine WA ?_
    exact aret_1 [] _ rfl rfl rfl (by decide) (ZNK rfl) (fun _ => .nil) ⟨by rw [hyes hh]; rfl, rfl⟩
   | false =>
    refine aw_cond_f rfl ?_
    refine ZZ ?_
    refine WA ?_
    refine wk_of [some 0, some 1] (fun _ => [(9, .o 0 0 T.length c), (11, .p 1 0 0), (48, .o 0 0 T.length c), (49, .c (I T.length)), (50, .c (I i)), (58, .o 0 (i + 1) n0 c0), (59, .c (I n0)), (60, .c (I (jj + 1 : Nat)))]) (fun _ => _) (by decide) (ZNL hE) ZCF ZCH (fun _ => ?_)
    exact ⟨m2 - 1, by omega, jj + 1, by omega, hstep hh, rfl, rfl⟩
  have h4 := hdone fun j y h1 gy => hnx j y h1 (by have := (List.getElem?_eq_some_iff.1 gy).1; omega) gy
  refine ZZ ?_
  refine WA ?_
  refine wk_of [some 0] (fun _ => [(9, .o 0 0 T.length c), (48, .o 0 0 T.length c), (49, .c (I T.length)), (50, .c (I (i + 1 : Nat)))]) (fun _ => _) (by decide) (ZNL hE) ZCF ZCH (fun _ => ?_)
  exact ⟨m - 1, by omega, i + 1, by omega, h4, rfl, rfl⟩
 refine ZZ ?_
 refine WA ?_
 exact aret_1 [] _ rfl rfl rfl (by decide) (ZNK rfl) (fun _ => .nil) ⟨by rw [cnf_no fun i' j x y h gx gy => hno i' j x y (by have := (List.getElem?_eq_some_iff.1 gx).1; omega) h gx gy]; rfl, rfl⟩
end Go.Proofs.YtlblimbelfenaaaGreat

/- A point among points; what the reference finds wrong with a ring: plain, and Contains by value. -/
namespace Go.Proofs.YtlblimbelfenaaaGreat
open Go Go.RowKit
set_option maxRecDepth 100000
theorem mem_dropP {l : List P2} {k : Nat} {z x : P2} (h : l[k]? = some z) : x ∈ l.drop k ↔ x = z ∨ x ∈ l.drop (k + 1) := by
 obtain ⟨h1, h2⟩ := List.getElem?_eq_some_iff.1 h
 rw [List.drop_eq_getElem_cons h1, List.mem_cons, h2]
theorem idxP_v (x : P2) (l : List P2) (v : Value) (hl : l.length ≤ 1000000000) : ACalls Tryz.prog 214 [.c (.r v (pR l)), .a [.c (I x.x), .c (I x.y)]] [] fun u H => ∃ r : Int, u = .c (I r) ∧ H = [] ∧ (0 ≤ r ↔ x ∈ l) := by
 have e1 : (pR l).length = l.length := by simp
 obtain ⟨xf, xt⟩ := x
 refine acalls_of (N := 19) Tryz.func214 rfl rfl (by simp) fun E hE => ?_
 refine WA ?_
 refine WA ?_
 refine aw_loopw (fun m F H => ∃ (k : Nat), m + k = l.length ∧ ((⟨xf, xt⟩ : P2) ∈ l.drop k ↔ ⟨xf, xt⟩ ∈ l) ∧ F = [(0, .c (.r v (pR l))), (3, .p 0 0 0), (7, .c (I (pR l).length)), (8, .c (I k))] ∧ H = [.box [.c (I xf), .c (I xt)]]) ?_ ?_
 ·refine wk_of [some 0] (fun _ => [(0, .c (.r v (pR l))), (3, .p 0 0 0), (7, .c (I (pR l).length)), (8, .c (I (0 : Nat)))]) (fun _ => [.box [.c (I xf), .c (I xt)]]) (by decide) (ZNL hE) ZCF ZCH (fun _ => ?_)
  exact ⟨l.length, 0, by omega, Iff.rfl, rfl, rfl⟩
 rintro m F H ⟨k, hk, hf, rfl, rfl⟩
 refine WA ?_
 refine aw_if rfl (fun hlt => ?_) (fun hge => ?_)
 ·obtain ⟨z, hz⟩ : ∃ e, l[k]? = some e := ⟨_, List.getElem?_eq_getElem (by omega)⟩
  have hfd := mem_dropP (x := ⟨xf, xt⟩) hz
  rw [p2_eq] at hfd
  obtain ⟨zx, zy⟩ := z
  have hrow : (pR l)[k]? = some [I zx, I zy] := by rw [List.getElem?_map, hz]; rfl
  refine WA ?_
  refine ZZ ?_
  refine aw_regionT [(0, none), (1, none), (2, none), (3, none), (4, none), (5, none)] hMixed (by kernel_rfl) ?_
  iterate 5 refine WX2 ?_
  refine ZT rfl (rd_eqla119 rfl rfl rfl) ?_
  refine WQ ?_
  refine aw_if rfl (fun heq => ?_) (fun hne => ?_)
  ·refine WA ?_
   exact aret_1 [] _ rfl rfl rfl (by decide) (ZNK rfl) (fun _ => .nil) ⟨_, rfl, rfl, ⟨fun _ => hf.1 (hfd.2 (.inl heq)), fun _ => by omega⟩⟩
  ·refine ZZ ?_
   refine WA ?_
   refine wk_of [some 0] (fun _ => [(0, .c (.r v (pR l))), (3, .p 0 0 0), (7, .c (I (pR l).length)), (8, .c (I (k + 1 : Nat)))]) (fun _ => [.box [.c (I xf), .c (I xt)]]) (by decide) (ZNL hE) ZCF ZCH (fun _ => ?_)
   exact ⟨m - 1, by omega, k + 1, by omega, ⟨fun h => hf.1 (hfd.2 (.inr h)), fun h => (hfd.1 (hf.2 h)).resolve_left hne⟩, rfl, rfl⟩
 refine WA ?_
 refine aret_1 [] _ rfl rfl rfl (by decide) (ZNK rfl) (fun _ => .nil) ⟨_, rfl, rfl, ?_⟩
 rw [← hf, List.drop_eq_nil_of_le (by omega)]; simp
theorem hasP_v (x : P2) (l : List P2) (v : Value) (hl : l.length ≤ 1000000000) : ACalls Tryz.prog 161 [.c (.r v (pR l)), .a [.c (I x.x), .c (I x.y)]] [] fun u H => u = .c (B (l.contains x)) ∧ H = [] := by
 obtain ⟨xf, xt⟩ := x
 refine acalls_of (N := 9) Tryz.func161 rfl rfl (by simp) fun E hE => ?_
 refine WA ?_
 refine WR ?_
 refine al_ef rfl (ef_call0 false (fun _ => idxP_v ⟨xf, xt⟩ l v (by omega)) rfl .fn rfl (by decide) (by kernel_rfl) rfl (fun _ => C0 rfl) (by simp)) ?_
 rintro _ _ ⟨_, _, _, ⟨r, rfl, rfl, hr⟩, hF, hH⟩
 (refine NST hF hH ?_; clear hF hH; rintro rfl rfl)
 refine WE ?_
 refine aret_1 [] _ rfl rfl rfl (by decide) (ZNK rfl) (fun _ => .nil) ⟨congrArg (fun z => AV.c (B z)) ?_, rfl⟩
 by_cases h : (⟨xf, xt⟩ : P2) ∈ l
 ·rw [decide_eq_true (hr.2 h)]; simpa using h
 ·rw [decide_eq_false (fun h' => h (hr.1 h'))]; simpa using h
def cfB (r : List P2) (i k : Nat) : Bool :=
 if k + 1 = i then onB (ptA r k) (ptA r i) (ptA r ((i + 1) % r.length)) || onB (ptA r ((i + 1) % r.length)) (ptA r k) (ptA r ((k + 1) % r.length))
 else if k = 0 ∧ i + 1 = r.length then onB (ptA r i) (ptA r k) (ptA r ((k + 1) % r.length)) || onB (ptA r ((k + 1) % r.length)) (ptA r i) (ptA r ((i + 1) % r.length))
 else metB (ptA r i) (ptA r ((i + 1) % r.length)) (ptA r k) (ptA r ((k + 1) % r.length))
def rfF (r : List P2) : Bool := (List.range r.length).any fun i => (List.range i).any fun k => cfB r i k
theorem ptA_inj {r : List P2} (h : r.Nodup) {i j : Nat} (hi : i < r.length) (hj : j < r.length) (e : ptA r i = ptA r j) : i = j := by
 have h1 := ptA_get hi
 have h2 := ptA_get hj
 obtain ⟨_, e1⟩ := List.getElem?_eq_some_iff.1 h1
 obtain ⟨_, e2⟩ := List.getElem?_eq_some_iff.1 h2
 rw [List.Nodup, List.pairwise_iff_getElem] at h
 rcases Nat.lt_trichotomy i j with k | k | k
 ·exact absurd (e1.trans (e.trans e2.symm)) (h i j hi hj k)
 ·exact k
 ·exact absurd (e2.trans (e.symm.trans e1.symm)) (h j i hj hi k)
theorem fld_on {o a b : P2} (ha : a ≠ o) (hb : b ≠ o) : fldB o a b = (onB a o b || onB b a o) := by
 rw [Bool.eq_iff_iff, fld_iff ha hb, Bool.or_eq_true, onB_iff, onB_iff]
theorem rfF_eq {r : List P2} (hn : r.Nodup) (h3 : 3 ≤ r.length) : rfF r = sfF r := by
 have hne : ∀ i, i < r.length → ∀ j, j < r.length → i ≠ j → ptA r i ≠ ptA r j := fun i hi j hj h e => h (ptA_inj hn hi hj e)
 rw [Bool.eq_iff_iff]
 unfold rfF sfF sfI
 simp only [List.any_eq_true, List.mem_range, Bool.or_eq_true, Bool.and_eq_true, decide_eq_true_eq]
 constructor
 ·rintro ⟨i, hi, k, hk, hc⟩
  unfold cfB at hc
  split at hc
  ·rename_i e
   subst e
   refine ⟨k, by omega, .inl ?_⟩
   have m1 : (k + 1) % r.length = k + 1 := Nat.mod_eq_of_lt hi
   rw [m1, fld_on (hne _ (by omega) _ hi (by omega)) (hne _ (Nat.mod_lt _ (by omega)) _ hi ?_)]
   ·rw [m1] at hc; exact hc
   ·by_cases e2 : k + 2 < r.length
    ·rw [Nat.mod_eq_of_lt e2]; omega
    ·rw [show k + 2 = r.length by omega, Nat.mod_self]; omega
  ·split at hc
   ·rename_i e
    obtain ⟨rfl, e⟩ := e
    refine ⟨i, hi, .inl ?_⟩
    have m1 : (i + 1) % r.length = 0 := by rw [e, Nat.mod_self]
    have m2 : (i + 2) % r.length = 1 := by rw [show i + 2 = r.length + 1 by omega, Nat.add_mod_left]; exact Nat.mod_eq_of_lt (by omega)
    have m3 : (0 + 1) % r.length = 1 := Nat.mod_eq_of_lt (by omega)
    rw [m1, m3] at hc
    rw [m1, m2, fld_on (hne _ hi _ (by omega) (by omega)) (hne _ (by omega) _ (by omega) (by omega))]
    exact hc
   ·refine ⟨k, by omega, .inr ⟨i, hi, ⟨by omega, by omega⟩, ?_⟩⟩
    unfold sfP
    rw [metB_comm]; exact hc
 ·rintro ⟨i, hi, h | ⟨k, hk, ⟨h1, h2⟩, hm⟩⟩
  ·by_cases e : i + 1 < r.length
   ·refine ⟨i + 1, e, i, by omega, ?_⟩
    unfold cfB
    rw [if_pos rfl]
    have m1 : (i + 1) % r.length = i + 1 := Nat.mod_eq_of_lt e
    rw [m1, fld_on (hne _ (by omega) _ e (by omega)) (hne _ (Nat.mod_lt _ (by omega)) _ e ?_)] at h
    ·rw [m1]; exact h
    ·by_cases e2 : i + 2 < r.length
     ·rw [Nat.mod_eq_of_lt e2]; omega
     ·rw [show i + 2 = r.length by omega, Nat.mod_self]; omega
   ·refine ⟨i, hi, 0, by omega, ?_⟩
    unfold cfB
    have m1 : (i + 1) % r.length = 0 := by rw [show i + 1 = r.length by omega, Nat.mod_self]
    have m2 : (i + 2) % r.length = 1 := by rw [show i + 2 = r.length + 1 by omega, Nat.add_mod_left]; exact Nat.mod_eq_of_lt (by omega)
    have m3 : (0 + 1) % r.length = 1 := Nat.mod_eq_of_lt (by omega)
    rw [if_neg (by omega), if_pos ⟨rfl, by omega⟩, m1, m3]
    rw [m1, m2, fld_on (hne _ hi _ (by omega) (by omega)) (hne _ (by omega) _ (by omega) (by omega))] at h
    exact h
  ·refine ⟨k, hk, i, by omega, ?_⟩
   unfold cfB
   rw [if_neg (by omega), if_neg (by omega), metB_comm]
   exact hm
end Go.Proofs.YtlblimbelfenaaaGreat
