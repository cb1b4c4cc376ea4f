/- Sides of all rings, by value. -/
import Derived.Test.YtlblimbelfenaaaGreatQaz
import Derived.Test.YtlblimbelfenaaaGreatQbd
import Derived.Test.YtlblimbelfenaaaGreatQbg
set_option linter.unusedSimpArgs false
set_option linter.unusedVariables false
/- All rings of a plane, by value. -/
-- NEWM
namespace Go.Proofs.YtlblimbelfenaaaGreat
open Go Go.RowKit
set_option maxRecDepth 100000
theorem IsConts.sides {S : List Seg5} {cs : List Con} (h : IsConts S cs) : ∀ k ∈ cs, ∀ s ∈ k.1, ∃ g ∈ S, s = g.fr ∨ s = g.to := by
 obtain ⟨l, o1, s1, o2, s2, h1, h2, h3, h4, h5, h6⟩ := h
 intro k hk s hs
 have hm : ∃ f r is, k = (f :: r, is) ∧ f ∈ l ∧ ∃ c, Ch (nxt S) f f r c := by
  rcases List.mem_append.1 (h5.subset hk) with hk | hk
  ·obtain ⟨f, r, e, _, _, m, hc⟩ := h3.heads.2.1 k hk; exact ⟨f, r, _, e, m, hc⟩
  ·obtain ⟨f, r, e, _, _, m, hc⟩ := h4.heads.2.1 k hk; exact ⟨f, r, _, e, m, hc⟩
 obtain ⟨f, r, is, rfl, hf, c, hc⟩ := hm
 rcases List.mem_cons.1 hs with rfl | hs
 ·obtain ⟨g, hg, e⟩ := List.mem_map.1 (h1.subset hf); exact ⟨g, hg, .inl e.symm⟩
 ·obtain ⟨g, hg, e⟩ := hc.fr s hs; exact ⟨g, hg, .inr e.symm⟩
theorem IsConts.cuts {V : List Vec3} {Fs : List Fac3} {z : Int} (hM : MOk V Fs) {cs : List Con} (h : IsConts (sgL V Fs z) cs) : ∀ k ∈ cs, ∀ s ∈ k.1, Cuts' V z s := fun k hk s hs => by
 obtain ⟨g, hg, e⟩ := h.sides k hk s hs
 rcases e with rfl | rfl
 ·exact (sg_cuts hM hg).1
 ·exact (sg_cuts hM hg).2
def okB (r : List P2) : Bool := !(decide (r.length < 3) || decide (dblF r = 0))
def rgs (V : List Vec3) (z : Int) (cs : List Con) : List (List P2) := (cs.filter (·.2)).map fun c => ringV V z c.1
def rgL (V : List Vec3) (z : Int) (cs : List Con) : List (List P2) := (rgs V z cs).filter okB
def lfN (V : List Vec3) (z : Int) (cs : List Con) : Nat := ((rgs V z cs).filter fun r => !okB r).length
theorem rgs_next {V : List Vec3} {z : Int} {cs : List Con} {j : Nat} {k : Con} (h : cs[j]? = some k) : rgs V z (cs.take (j + 1)) = rgs V z (cs.take j) ++ (if k.2 = true then [ringV V z k.1] else []) := by
 unfold rgs
 rw [take_snoc h, List.filter_append, List.map_append]
 by_cases e : k.2 = true <;> simp [e]
theorem ring_len (V : List Vec3) (z : Int) (c : List Sid2) : (ringV V z c).length ≤ c.length := by
 have := (ringV_sub V z c).length_le
 rwa [List.length_map] at this
theorem ring_in {V : List Vec3} {Fs : List Fac3} {z : Int} (hM : MOk V Fs) {c : List Sid2} (h : ∀ s ∈ c, Cuts' V z s) : ∀ p ∈ ringV V z c, p.in := fun p hp => by
 obtain ⟨s, hs, rfl⟩ := List.mem_map.1 ((ringV_sub V z c).subset hp)
 exact pt_in (fun i hi => nearI hM.far hi) (h s hs)
abbrev rgR (l : List (Value × List P2)) : List (List CV) := l.map fun p => [.r p.1 (pR p.2)]

set_option maxHeartbeats 8000000 in
theorem rings_v (v w : Value) (V : List Vec3) (Fs : List Fac3) (z : Int) (hM : MOk V Fs) (hz : -100000 ≤ z ∧ z ≤ 100000) : ACalls Tryz.prog 57 [mshA v w V Fs, .c (I z)] [] fun u H => ∃ (q : Value) (A : List (Value × List P2)) (cs : List Con), u = .t [.c (.r q (rgR A)), .c (I (lfN V z cs))] ∧ H = [] ∧ A.map Prod.snd = rgL V z cs ∧ IsConts (sgL V Fs z) cs := by
 have hlf := hM.lf
 have hok := sgL_ok (z := z) hM
 have hSl := sgL_len V Fs z
 refine acalls_of (N := 41) Tryz.func57 rfl rfl (by simp) fun E hE => ?_
 refine WA ?_
 refine WR ?_
 refine al_ef rfl (ef_call0 false (fun _ => contours_p v w V Fs z hM) rfl .fn rfl (by decide) (by kernel_rfl) rfl (fun _ => C0 rfl) (by simp)) ?_
 rintro _ _ ⟨_, _, _, ⟨q, l, rfl, rfl, hcon⟩, hF, hH⟩
 (refine NST hF hH ?_; clear hF hH; rintro rfl rfl)
 refine WE ?_
 have hsm := hcon.small hok
 have hl1000 : l.length ≤ 1000 := by have := hsm.1; rw [List.length_map] at this; omega
 have hne : ∀ p ∈ l, p.2.1 ≠ [] ∧ p.2.1.length ≤ 1001 := fun p hp => by
  obtain ⟨h1, h2⟩ := hsm.2 p.2 (List.mem_map.2 ⟨p, hp, rfl⟩)
  exact ⟨h1, by omega⟩
 clear hsm
 have hcs := hcon.cuts hM
 have e5 : (cR l).length = l.length := by simp
 refine aw_loopw (fun m F H => ∃ (j ca lf : Nat) (A : List (Value × List P2)), m + j = l.length ∧ A.length ≤ ca ∧ lf ≤ j ∧ A.map Prod.snd = rgL V z ((l.map Prod.snd).take j) ∧ lf = lfN V z ((l.map Prod.snd).take j) ∧ F = [(1, .c (I z)), (2, .p 0 0 0), (4, .o 1 0 A.length ca), (5, .c (I lf)), (11, .c (.r q (cR l))), (12, .c (I (cR l).length)), (13, .c (I j))] ∧ H = [mB v w V Fs, .arr 107 1 ca (rgR A)]) ?_ ?_
 ·refine wk_of [some 0, none] (fun _ => [(1, .c (I z)), (2, .p 0 0 0), (4, .o 1 0 0 0), (5, .c (I (0 : Nat))), (11, .c (.r q (cR l))), (12, .c (I (cR l).length)), (13, .c (I (0 : Nat)))]) (fun _ => [mB v w V Fs, .arr 107 1 0 []]) (by decide) (ZNL hE) ZCF ZCH (fun _ => ?_)
  exact ⟨l.length, 0, 0, 0, [], by omega, by simp, by omega, by simp [rgL, rgs], by simp [lfN, rgs], rfl, rfl⟩
 rintro m F H ⟨j, ca, lf, A, hj, hcap, hlj, hA, hlf2, rfl, rfl⟩
 refine WA ?_
 refine aw_if rfl (fun hlt => ?_) (fun hge => ?_)
 ·obtain ⟨p, hp⟩ : ∃ z, l[j]? = some z := ⟨_, List.getElem?_eq_getElem (by omega)⟩
  obtain ⟨hne0, hpl⟩ := hne p (List.mem_of_getElem? hp)
  have hp2 : (l.map Prod.snd)[j]? = some p.2 := by rw [List.getElem?_map, hp]; rfl
  have hnx := rgs_next (V := V) (z := z) hp2
  have hcu := hcs p.2 (List.mem_of_getElem? hp2)
  obtain ⟨pv, ps, pb⟩ := p
  simp only at hne0 hpl hcu hnx
  have hrow : (cR l)[j]? = some [.r pv (sR ps), B pb] := by rw [List.getElem?_map, hp]; rfl
  refine WA ?_
  cases pb with
  | false =>
   have hnx1 : rgs V z ((l.map Prod.snd).take (j + 1)) = rgs V z ((l.map Prod.snd).take j) := by rw [hnx]; simp
   refine WA ?_
   refine aw_cond_t rfl ?_
   refine ZZ ?_
   refine WA ?_
   refine wk_of [some 0, some 1] (fun _ => [(1, .c (I z)), (2, .p 0 0 0), (4, .o 1 0 A.length ca), (5, .c (I lf)), (11, .c (.r q (cR l))), (12, .c (I (cR l).length)), (13, .c (I (j + 1 : Nat)))]) (fun _ => _) (by decide) (ZNL hE) ZCF ZCH (fun _ => ?_)
   exact ⟨m - 1, by omega, j + 1, ca, lf, A, by omega, hcap, by omega, by rw [hA, rgL, rgL, hnx1], by rw [hlf2, lfN, lfN, hnx1], rfl, rfl⟩
  | true =>
   have hnx1 : rgs V z ((l.map Prod.snd).take (j + 1)) = rgs V z ((l.map Prod.snd).take j) ++ [ringV V z ps] := by rw [hnx]; simp
   have hRl := ring_len V z ps
   have hRi := ring_in hM hcu
   have hD := dblN_in hRi (ringV V z ps).length (Nat.le_refl _)
   refine WA ?_
   refine aw_cond_f rfl ?_
   refine ZZ ?_
   refine WR ?_
   refine al_ef rfl (ef_call0 false (fun _ => ringof_v v w pv V Fs z ps true hM hz (by omega) hcu) rfl .fn rfl (by decide) (by kernel_rfl) rfl (fun _g => .cons (.aL (C0 rfl)) (.cons (.aL (C0 rfl)) (.cons (.c rfl) .nil))) (by simp)) ?_
   rintro _ _ ⟨_, _, _, ⟨qr, rfl, rfl⟩, hF, hH⟩
   (refine NST hF hH ?_; clear hF hH; rintro rfl rfl)
   refine WE ?_
   clear hnx hcu
   generalize ringV V z ps = R at hnx1 hRl hRi hD ⊢
   have eR : (pR R).length = R.length := by simp
   have h0t : okB R = false → rgL V z ((l.map Prod.snd).take (j + 1)) = rgL V z ((l.map Prod.snd).take j) ∧ lfN V z ((l.map Prod.snd).take (j + 1)) = lfN V z ((l.map Prod.snd).take j) + 1 := fun h => by
    unfold rgL lfN
    rw [hnx1]
    simp [h]
   have h1t : okB R = true → rgL V z ((l.map Prod.snd).take (j + 1)) = rgL V z ((l.map Prod.snd).take j) ++ [R] ∧ lfN V z ((l.map Prod.snd).take (j + 1)) = lfN V z ((l.map Prod.snd).take j) := fun h => by
    unfold rgL lfN
    rw [hnx1]
    simp [h]
   refine aw_cut (fun F H => F = [(1, .c (I z)), (2, .p 0 0 0), (4, .o 1 0 A.length ca), (5, .c (I lf)), (8, .c (.r qr (pR R))), (11, .c (.r q (cR l))), (12, .c (I (cR l).length)), (13, .c (I j)), (31, .c (B (!okB R)))] ∧ H = [mB v w V Fs, .arr 107 1 ca (rgR A)]) ?_ ?_ wk_aw
   ·by_cases h3 : R.length < 3
    ·have hk : okB R = false := by simp [okB, h3]
     refine WR ?_
     first | refine ZS ?_ | (refine G1 rfl ?_; refine al_ef rfl (ef_call0 false (fun _ => pdbl_v R qr (by omega) hRi) rfl .fn rfl (by decide) (by kernel_rfl) rfl (fun _ => C0 rfl) (by simp)) ?_; rintro _ _ ⟨_, _, _, ⟨rfl, rfl⟩, hF, hH⟩; (refine NST hF hH ?_; clear hF hH; rintro rfl rfl)) | skip
     refine WE ?_
     all_goals (exact wk_of [some 0, some 1] (fun _ => [(1, .c (I z)), (2, .p 0 0 0), (4, .o 1 0 A.length ca), (5, .c (I lf)), (8, .c (.r qr (pR R))), (11, .c (.r q (cR l))), (12, .c (I (cR l).length)), (13, .c (I j)), (31, .c (B (!okB R)))]) (fun _ => _) (by decide) (ZNL hE) (by rw [hk]; exact ZCF) ZCH (fun _ => ⟨rfl, rfl⟩))
    ·have hk : (!okB R) = decide (dblF R = 0) := by simp [okB, h3]
     refine WR ?_
     first | refine ZS ?_ | (refine G1 rfl ?_; refine al_ef rfl (ef_call0 false (fun _ => pdbl_v R qr (by omega) hRi) rfl .fn rfl (by decide) (by kernel_rfl) rfl (fun _ => C0 rfl) (by simp)) ?_; rintro _ _ ⟨_, _, _, ⟨rfl, rfl⟩, hF, hH⟩; (refine NST hF hH ?_; clear hF hH; rintro rfl rfl)) | skip
     refine WE ?_
     all_goals (exact wk_of [some 0, some 1] (fun _ => [(1, .c (I z)), (2, .p 0 0 0), (4, .o 1 0 A.length ca), (5, .c (I lf)), (8, .c (.r qr (pR R))), (11, .c (.r q (cR l))), (12, .c (I (cR l).length)), (13, .c (I j)), (31, .c (B (!okB R)))]) (fun _ => _) (by decide) (ZNL hE) (by rw [hk]; exact ZCF) ZCH (fun _ => ⟨rfl, rfl⟩))
   rintro F H ⟨rfl, rfl⟩
   refine ZZ ?_
   refine aw_cond rfl (fun hbt => ?_) (fun hbf => ?_)
   ·obtain ⟨k1, k2⟩ := h0t (by simpa using hbt)
    refine WA ?_
    refine WA ?_
    refine wk_of [some 0, some 1] (fun _ => [(1, .c (I z)), (2, .p 0 0 0), (4, .o 1 0 A.length ca), (5, .c (I (lf + 1 : Nat))), (11, .c (.r q (cR l))), (12, .c (I (cR l).length)), (13, .c (I (j + 1 : Nat)))]) (fun _ => _) (by decide) (ZNL hE) ZCF ZCH (fun _ => ?_)
    exact ⟨m - 1, by omega, j + 1, ca, lf + 1, A, by omega, hcap, by omega, by rw [hA, k1], by rw [hlf2, k2], rfl, rfl⟩
   ·obtain ⟨k1, k2⟩ := h1t (by simpa using hbf)
    have hAl : A.length ≤ 1000 := by
     have h9 : A.length ≤ j := by
      have := congrArg List.length hA
      rw [List.length_map] at this
      have h2 : (rgL V z ((l.map Prod.snd).take j)).length ≤ ((l.map Prod.snd).take j).length := by
       unfold rgL rgs
       refine Nat.le_trans (List.length_filter_le _ _) ?_
       rw [List.length_map]
       exact List.length_filter_le _ _
      rw [List.length_take] at h2
      omega
     omega
    refine ZZ ?_
    refine WR ?_
    refine al_ef rfl (Zapp (KA (t := 33) rfl)) ?_
    rintro _ _ ⟨_, cc, hcc, rfl, rfl⟩
    refine WE ?_
    refine WA ?_
    refine wk_of [some 0, some 1] (fun _ => [(1, .c (I z)), (2, .p 0 0 0), (4, .o 1 0 (A ++ [(qr, R)]).length _), (5, .c (I lf)), (11, .c (.r q (cR l))), (12, .c (I (cR l).length)), (13, .c (I (j + 1 : Nat)))]) (fun _ => _) (by decide) (ZNL hE) ZCF ZCH (fun _ => ?_)
    exact ⟨m - 1, by omega, j + 1, _, lf, A ++ [(qr, R)], by omega, by simp; omega, by omega, by rw [k1, List.map_append, hA]; rfl, by rw [hlf2, k2], rfl, by simp [rgR]⟩
 obtain rfl : j = l.length := by omega
 rw [List.take_of_length_le (by simp)] at hA hlf2
 refine ZZ ?_
 refine WA ?_
 exact aret_f2 [] _ rfl rfl rfl rfl rfl rfl (by rw [List.drop_zero, List.take_of_length_le (by simp)]) (by simp) rfl (by decide) (ZNK rfl) (fun _ => .nil) (fun q => ⟨q, A, l.map Prod.snd, by rw [hlf2], rfl, hA, hcon⟩)
end Go.Proofs.YtlblimbelfenaaaGreat

/- Sides of all rings, by value. -/
namespace Go.Proofs.YtlblimbelfenaaaGreat
open Go Go.RowKit
set_option maxRecDepth 100000
def sds5 (r : List P2) (i : Int) : List Sd5 := (List.range r.length).map fun k => ⟨i, ptA r k, ptA r ((k + 1) % r.length)⟩
def allS (rs : List (List P2)) : Nat → List Sd5
 | 0 => []
 | k + 1 => allS rs k ++ sds5 (rs.getD k []) k
theorem sds5_take {r : List P2} {i : Int} {k : Nat} (h : k < r.length) : (sds5 r i).take (k + 1) = (sds5 r i).take k ++ [⟨i, ptA r k, ptA r ((k + 1) % r.length)⟩] := by
 refine take_snoc ?_
 unfold sds5
 rw [List.getElem?_map, List.getElem?_range h]
 rfl
theorem sds5_len (r : List P2) (i : Int) : (sds5 r i).length = r.length := by simp [sds5]
set_option maxHeartbeats 8000000 in
theorem sides5_v (A : List (Value × List P2)) (v : Value) (hA : A.length ≤ 100) (hl : ∀ p ∈ A, p.2.length ≤ 2000) : ACalls Tryz.prog 153 [.c (.r v (rgR A))] [] fun u H => ∃ (c : Nat) (L : List Sd5), L.length ≤ 200000 ∧ L.length ≤ c ∧ L = allS (A.map Prod.snd) A.length ∧ u = .o 0 0 L.length c ∧ H = [.arr 203 5 c (s5R L)] := by
 have e1 : (rgR A).length = A.length := by simp
 refine acalls_of (N := 39) Tryz.func153 rfl rfl (by simp) fun E hE => ?_
 refine WA ?_
 refine WA ?_
 refine WA ?_
 refine aw_loopw (fun m F H => ∃ (i c : Nat) (L : List Sd5), m + i = A.length ∧ L.length ≤ 2000 * i ∧ L.length ≤ c ∧ L = allS (A.map Prod.snd) i ∧ F = [(3, .o 0 0 L.length c), (8, .c (.r v (rgR A))), (9, .c (I (rgR A).length)), (10, .c (I i))] ∧ H = [.arr 203 5 c (s5R L)]) ?_ ?_
 ·refine wk_of [none] (fun _ => [(3, .o 0 0 0 0), (8, .c (.r v (rgR A))), (9, .c (I (rgR A).length)), (10, .c (I (0 : Nat)))]) (fun _ => [.arr 203 5 0 []]) (by decide) (ZNL hE) ZCF ZCH (fun _ => ?_)
  exact ⟨A.length, 0, 0, [], by omega, by simp, by simp, rfl, rfl, rfl⟩
 rintro m F H ⟨i, c, L, hi, hL1, hL2, hL, rfl, rfl⟩
 refine WA ?_
 refine aw_if rfl (fun hlt => ?_) (fun hge => ?_)
 ·obtain ⟨p, hp⟩ : ∃ z, A[i]? = some z := ⟨_, List.getElem?_eq_getElem (by omega)⟩
  have hrl := hl p (List.mem_of_getElem? hp)
  have hnx : allS (A.map Prod.snd) (i + 1) = L ++ sds5 p.2 i := by
   rw [allS, ← hL, List.getD_eq_getElem?_getD, List.getElem?_map, hp]; rfl
  obtain ⟨qv, r⟩ := p
  simp only at hrl hnx
  have hrow : (rgR A)[i]? = some [.r qv (pR r)] := by rw [List.getElem?_map, hp]; rfl
  have e2 : (pR r).length = r.length := by simp
  refine WA ?_
  refine WA ?_
  have hL0 := hL
  clear hp
  refine aw_loopw (fun m2 F H => ∃ (k c : Nat) (M : List Sd5), m2 + k = r.length ∧ M.length ≤ 2000 * i + k ∧ M.length ≤ c ∧ M = L ++ (sds5 r i).take k ∧ F = [(3, .o 0 0 M.length c), (4, .c (I i)), (5, .c (.r qv (pR r))), (8, .c (.r v (rgR A))), (9, .c (I (rgR A).length)), (10, .c (I i)), (15, .c (.r qv (pR r))), (16, .c (I (pR r).length)), (17, .c (I k))] ∧ H = [.arr 203 5 c (s5R M)]) ?_ ?_
  ·refine wk_of [some 0] (fun _ => [(3, .o 0 0 L.length c), (4, .c (I i)), (5, .c (.r qv (pR r))), (8, .c (.r v (rgR A))), (9, .c (I (rgR A).length)), (10, .c (I i)), (15, .c (.r qv (pR r))), (16, .c (I (pR r).length)), (17, .c (I (0 : Nat)))]) (fun _ => _) (by decide) (ZNL hE) ZCF ZCH (fun _ => ?_)
   exact ⟨r.length, 0, c, L, by omega, by omega, hL2, by simp, rfl, rfl⟩
  rintro m2 F H ⟨k, c, M, hk, hM1, hM2, hM, rfl, rfl⟩
  refine WA ?_
  refine aw_if rfl (fun hlt2 => ?_) (fun hge2 => ?_)
  ·have hkl : k < r.length := by omega
   have hj : (k + 1) % r.length < r.length := Nat.mod_lt _ (by omega)
   have hm1 : (((k : Int) + 1) % (r.length : Int)) = ((k + 1) % r.length : Nat) := by simp
   have hM3 := sds5_take (i := i) hkl
   have rA := prow hkl
   have rB := prow hj
   generalize (k + 1) % r.length = j at *
   generalize ptA r k = a at *
   generalize ptA r j = b at *
   refine WA ?_
   refine ZZ ?_
   refine aw_regionT [(0, none), (1, none), (2, none), (3, none), (4, none), (5, none), (6, none), (7, none), (8, none), (9, none), (10, none), (11, none), (12, some [0]), (13, some []), (14, none)] hMixed (by kernel_rfl) ?_
   iterate 8 refine WX2 ?_
   refine ZT rfl (rd_remY (z := ((j : Nat) : Int)) rfl rfl rfl (by omega) (by rw [Int.tmod_eq_emod_of_nonneg (by omega)]; simpa using hm1)) ?_
   refine ZT rfl (rd_indexq (i := j) rfl (KE (t := 107) rfl) rfl rfl rfl rB rfl) ?_
   refine WP ?_
   refine at_ef rfl rfl (Zapp (KA (t := 199) rfl)) ?_
   rintro _ _ ⟨_, cc, hcc, rfl, rfl⟩
   refine ⟨ag_none, ?_⟩
   refine WQ ?_
   all_goals (refine WA ?_)
   all_goals (refine wk_of [some 0] (fun _ => [(3, .o 0 0 (M ++ [(⟨i, a, b⟩ : Sd5)]).length _), (4, .c (I i)), (5, .c (.r qv (pR r))), (8, .c (.r v (rgR A))), (9, .c (I (rgR A).length)), (10, .c (I i)), (15, .c (.r qv (pR r))), (16, .c (I (pR r).length)), (17, .c (I (k + 1 : Nat)))]) (fun _ => _) (by decide) (ZNL hE) ZCF ZCH (fun _ => ?_))
   all_goals (exact ⟨m2 - 1, by omega, k + 1, _, M ++ [(⟨i, a, b⟩ : Sd5)], by omega, by simp; omega, by simp; omega, by rw [hM3, hM]; simp, rfl, by simp [s5R]⟩)
  obtain rfl : k = r.length := by omega
  rw [List.take_of_length_le (by rw [sds5_len]; exact Nat.le_refl _)] at hM
  refine ZZ ?_
  refine WA ?_
  refine wk_of [some 0] (fun _ => [(3, .o 0 0 M.length c), (8, .c (.r v (rgR A))), (9, .c (I (rgR A).length)), (10, .c (I (i + 1 : Nat)))]) (fun _ => _) (by decide) (ZNL hE) ZCF ZCH (fun _ => ?_)
  exact ⟨m - 1, by omega, i + 1, c, M, by omega, by omega, hM2, by rw [hnx, hM], rfl, rfl⟩
 obtain rfl : i = A.length := by omega
 refine ZZ ?_
 refine WA ?_
 exact aret_o [some 0] (fun _ => [.arr 203 5 c (s5R L)]) rfl rfl rfl rfl rfl (by decide) (ZNK rfl) ZCH (fun _ => ⟨c, L, by omega, hL2, hL, rfl, rfl⟩)
end Go.Proofs.YtlblimbelfenaaaGreat
