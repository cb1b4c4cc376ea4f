/- The law ClosedStayClosed, walked. -/
import Derived.Test.YthanangkmjjbaaaGreatDoorQbb
import Derived.Test.YthanangkmjjbaaaGreatDoorQbh
import Derived.Test.YthanangkmjjbaaaGreatDoorQbl
import Derived.Test.YthanangkmjjbaaaGreatDoorQbx
import Derived.Test.YthanangkmjjbaaaGreatDoorQbe
import Derived.Test.YthanangkmjjbaaaGreatDoorQbk
import Derived.Test.YthanangkmjjbaaaGreatDoorQbc
set_option linter.unusedSimpArgs false
set_option linter.unusedVariables false
/- The law CutsLieBetween, walked. -/
-- NEWM
namespace Go.Proofs.YthanangkmjjbaaaGreatDoor
open Go Go.RowKit
set_option maxRecDepth 100000
/- ## Plain: a cut lies between both ends -/
theorem cutN_between (p q za zb z : Int) (h1 : za < z) (h2 : z ≤ zb) : min p q * (zb - za) ≤ cutN p q za zb z ∧ cutN p q za zb z ≤ max p q * (zb - za) := by
  have e : cutN p q za zb z = p * (zb - za) + (q - p) * (z - za) := rfl
  have e2 : cutN p q za zb z = q * (zb - za) + (p - q) * (zb - z) := by
    rw [e, show zb - z = (zb - za) - (z - za) by omega]
    generalize zb - za = D
    generalize z - za = t
    rw [Int.mul_sub (p - q) D t, Int.sub_mul q p t, Int.sub_mul p q D, Int.sub_mul p q t]
    omega
  rcases Int.le_total p q with h | h
  · have k1 : 0 ≤ (q - p) * (z - za) := Int.mul_nonneg (by omega) (by omega)
    have k2 : 0 ≤ (q - p) * (zb - z) := Int.mul_nonneg (by omega) (by omega)
    have k3 : (p - q) * (zb - z) = -((q - p) * (zb - z)) := by rw [← Int.neg_mul]; congr 1; omega
    rw [show min p q = p by omega, show max p q = q by omega]
    omega
  · have k1 : 0 ≤ (p - q) * (z - za) := Int.mul_nonneg (by omega) (by omega)
    have k2 : 0 ≤ (p - q) * (zb - z) := Int.mul_nonneg (by omega) (by omega)
    have k3 : (q - p) * (z - za) = -((p - q) * (z - za)) := by rw [← Int.neg_mul]; congr 1; omega
    rw [show min p q = q by omega, show max p q = p by omega]
    omega
theorem low_between (p q za zb z : Int) (h1 : za < z) (h2 : z ≤ zb) : min p q * (lowF (cutN p q za zb z) (zb - za)).d ≤ (lowF (cutN p q za zb z) (zb - za)).n ∧ (lowF (cutN p q za zb z) (zb - za)).n ≤ max p q * (lowF (cutN p q za zb z) (zb - za)).d ∧ 1 ≤ (lowF (cutN p q za zb z) (zb - za)).d ∧ (lowF (cutN p q za zb z) (zb - za)).d ≤ zb - za := by
  obtain ⟨b1, b2⟩ := cutN_between p q za zb z h1 h2
  generalize cutN p q za zb z = N at b1 b2 ⊢
  have hD : 1 ≤ zb - za := by omega
  generalize zb - za = D at b1 b2 hD ⊢
  have hg := gcd_pos' (n := N) hD
  have d1 : ((Int.gcd N D : Nat) : Int) ∣ N := Int.gcd_dvd_left ..
  have d2 : ((Int.gcd N D : Nat) : Int) ∣ D := Int.gcd_dvd_right ..
  have e1 : (lowF N D).n * (Int.gcd N D : Nat) = N := Int.tdiv_mul_cancel d1
  have e2 : (lowF N D).d * (Int.gcd N D : Nat) = D := Int.tdiv_mul_cancel d2
  generalize (lowF N D).n = n at e1 ⊢
  generalize (lowF N D).d = d at e2 ⊢
  generalize ((Int.gcd N D : Nat) : Int) = g at e1 e2 hg
  have c1 : min p q * d ≤ n := by
    refine Int.le_of_mul_le_mul_right (a := g) ?_ (by omega)
    rw [Int.mul_assoc, e2, e1]; exact b1
  have c2 : n ≤ max p q * d := by
    refine Int.le_of_mul_le_mul_right (a := g) ?_ (by omega)
    rw [Int.mul_assoc, e2, e1]; exact b2
  have c3 : 1 ≤ d := by
    rcases Int.lt_or_le 0 d with h | h
    · omega
    · have : d * g ≤ 0 * g := Int.mul_le_mul_of_nonneg_right h (by omega)
      omega
  refine ⟨c1, c2, c3, ?_⟩
  have : d * 1 ≤ d * g := Int.mul_le_mul_of_nonneg_left hg (by omega)
  omega
/- ## The walk -/
end Go.Proofs.YthanangkmjjbaaaGreatDoor

/- The law ClosedStayClosed, walked. -/
-- NEWM
namespace Go.Proofs.YthanangkmjjbaaaGreatDoor
open Go Go.RowKit
set_option maxRecDepth 100000
theorem errk_v (l : List Int) (v : Value) (hl : l.length ≤ 1000000) : ACalls Tryz.prog 22 [.c (.r v (zR l))] [] fun u H => u = .c (I (fst0 l)) ∧ H = [] := by
  have e1 : (zR l).length = l.length := by simp
  refine acalls_of (N := 15) Tryz.func22 rfl rfl (by simp) fun E hE => ?_
  refine WA ?_
  refine WA ?_
  refine aw_loopw (fun m F H => ∃ (k : Nat), m + k = l.length ∧ fst0 (l.drop k) = fst0 l ∧ F = [(5, .c (.r v (zR l))), (6, .c (I (zR l).length)), (7, .c (I k))] ∧ H = []) ?_ ?_
  · refine wk_of [] (fun _ => [(5, .c (.r v (zR l))), (6, .c (I (zR l).length)), (7, .c (I (0 : Nat)))]) (fun _ => _) (by decide) (ZNL hE) ZCF (fun _ => .nil) (fun _ => ?_)
    exact ⟨l.length, 0, by omega, rfl, rfl, rfl⟩
  rintro m F H ⟨k, hk, hf, rfl, rfl⟩
  refine WA ?_
  refine aw_if rfl (fun hlt => ?_) (fun hge => ?_)
  · obtain ⟨n, hn⟩ : ∃ n, l[k]? = some n := ⟨_, List.getElem?_eq_getElem (by omega)⟩
    have hrow : (zR l)[k]? = some [I n] := by rw [List.getElem?_map, hn]; rfl
    have hd := fst0_drop hn
    refine WA ?_
    refine WA ?_
    refine aw_if rfl (fun hv => ?_) (fun hv => ?_)
    · refine WA ?_
      exact aret_1 [] _ rfl rfl rfl (by decide) (ZNK rfl) (fun _ => .nil) ⟨by rw [← hf, hd, if_neg hv], rfl⟩
    · refine WA ?_
      refine wk_of [] (fun _ => [(5, .c (.r v (zR l))), (6, .c (I (zR l).length)), (7, .c (I (k + 1 : Nat)))]) (fun _ => _) (by decide) (ZNL hE) ZCF (fun _ => .nil) (fun _ => ?_)
      exact ⟨m - 1, by omega, k + 1, by omega, by rw [← hf, hd, if_pos (by omega)], rfl, rfl⟩
  refine WA ?_
  exact aret_1 [] _ rfl rfl rfl (by decide) (ZNK rfl) (fun _ => .nil) ⟨by rw [← hf, List.drop_eq_nil_of_le (by omega)]; rfl, rfl⟩
/- ## No false among trues -/
theorem idxB_v (l : List Bool) (v : Value) (hl : l.length ≤ 1000000000) (ht : ∀ b ∈ l, b = true) : ACalls Tryz.prog 65 [.c (.r v (bR l)), .c (B false)] [] fun u H => u = .c (I (-1)) ∧ H = [] := by
  have e1 : (bR l).length = l.length := by simp
  refine acalls_of (N := 19) Tryz.func65 rfl rfl (by simp) fun E hE => ?_
  refine WA ?_
  refine WA ?_
  refine aw_loopw (fun m F H => ∃ (k : Nat), m + k = l.length ∧ F = [(0, .c (.r v (bR l))), (1, .c (B false)), (7, .c (I (bR l).length)), (8, .c (I k))] ∧ H = []) ?_ ?_
  · refine wk_of [] (fun _ => [(0, .c (.r v (bR l))), (1, .c (B false)), (7, .c (I (bR l).length)), (8, .c (I (0 : Nat)))]) (fun _ => _) (by decide) (ZNL hE) ZCF (fun _ => .nil) (fun _ => ?_)
    exact ⟨l.length, 0, by omega, rfl, rfl⟩
  rintro m F H ⟨k, hk, rfl, rfl⟩
  refine WA ?_
  refine aw_if rfl (fun hlt => ?_) (fun hge => ?_)
  · obtain ⟨s, hs⟩ : ∃ s, l[k]? = some s := ⟨_, List.getElem?_eq_getElem (by omega)⟩
    obtain rfl : s = true := ht s (List.mem_of_getElem? hs)
    have hrow : (bR l)[k]? = some [B true] := by rw [List.getElem?_map, hs]; rfl
    refine WA ?_
    refine WA ?_
    refine aw_cond_f rfl ?_
    refine ZZ ?_
    refine WA ?_
    refine wk_of [] (fun _ => [(0, .c (.r v (bR l))), (1, .c (B false)), (7, .c (I (bR l).length)), (8, .c (I (k + 1 : Nat)))]) (fun _ => _) (by decide) (ZNL hE) ZCF (fun _ => .nil) (fun _ => ?_)
    exact ⟨m - 1, by omega, k + 1, by omega, rfl, rfl⟩
  refine WA ?_
  exact aret_1 [] _ rfl rfl rfl (by decide) (ZNK rfl) (fun _ => .nil) ⟨rfl, rfl⟩
theorem hasB_v (l : List Bool) (v : Value) (hl : l.length ≤ 1000000000) (ht : ∀ b ∈ l, b = true) : ACalls Tryz.prog 23 [.c (.r v (bR l)), .c (B false)] [] fun u H => u = .c (B false) ∧ H = [] := by
  refine acalls_of (N := 9) Tryz.func23 rfl rfl (by simp) fun E hE => ?_
  refine WA ?_
  refine WR ?_
  refine al_ef rfl (ef_call0 false (fun _ => idxB_v l v hl ht) rfl .fn rfl (by decide) (by kernel_rfl) rfl (fun _ => C0 rfl) (by simp)) ?_
  rintro _ _ ⟨_, _, _, ⟨rfl, rfl⟩, hF, hH⟩
  (try simp only [nsl, Nat.reduceAdd, Nat.reduceLT, Nat.reduceSub] at hF); (try simp only [nsl, Nat.reduceAdd, Nat.reduceLT, Nat.reduceSub] at hH); subst hF; subst hH
  refine WE ?_
  exact aret_1 [] _ rfl rfl rfl (by decide) (ZNK rfl) (fun _ => .nil) ⟨rfl, rfl⟩
end Go.Proofs.YthanangkmjjbaaaGreatDoor

/- The law ClosedStayClosed, walked. -/
-- NEWM
namespace Go.Proofs.YthanangkmjjbaaaGreatDoor
open Go Go.RowKit
set_option maxRecDepth 100000
set_option maxHeartbeats 8000000 in
theorem law_closed (v : Value) (zs : List Int) (hs : StrOk zs) : ACalls Tryz.prog 5 [.c (.r v (zs.map fun z => [I z]))] [] fun u H => u = .c (B true) := by
  refine acalls_of (N := 112) Tryz.func5 rfl rfl (by simp) fun E hE => ?_
  refine WA ?_
  refine WA ?_
  refine WR ?_
  refine al_ef rfl (ef_callm false (fun _ => closedmesh_v _ _ _ hs (by omega) (by omega)) rfl .fn rfl (by decide) (by kernel_rfl) rfl rfl (fun _g => .cons (.p rfl) .nil) (fun _g => .cons (.c rfl) (.cons (.c rfl) .nil)) (by simp)) ?_
  rintro F1 H1 ⟨_, _, _, _, ⟨a2, q, w, V, Fs, rfl, hq, ha3, ha4, hV, hFl, hmf, hop⟩, hF, hH⟩
  injection hq with hq1 hq2; subst hq1; subst hq2
  (try simp only [nsl, Nat.reduceAdd, Nat.reduceLT, Nat.reduceSub] at hF); (try simp only [nsl, Nat.reduceAdd, Nat.reduceLT, Nat.reduceSub] at hH); subst hF; subst hH
  refine WE ?_
  have hM : MOk V Fs := mok_of hmf
  have hcf : ClosedF Fs := fun s hs => by
    by_cases h : revS s ∈ Fs.flatMap sds
    · exact h
    · have : s ∈ opnL Fs := List.mem_filter.2 ⟨hs, by simpa [revS] using h⟩
      rw [hop] at this; cases this
  refine WR ?_
  refine al_ef rfl (ef_callm false (fun _ => aplane_v _ _ _ q w V Fs hs (by omega) (by omega) (by omega)) rfl .fn rfl (by decide) (by kernel_rfl) rfl rfl (fun _g => .cons (.p rfl) (.cons (.aL (C0 rfl)) .nil)) (fun _g => .cons (.c rfl) (.cons (.c rfl) .nil)) (by simp)) ?_
  rintro F1 H1 ⟨_, _, _, _, ⟨z, az, rfl, hq, hbz, hcz⟩, hF, hH⟩
  injection hq with hq1 hq2; subst hq1; subst hq2
  (try simp only [nsl, Nat.reduceAdd, Nat.reduceLT, Nat.reduceSub] at hF); (try simp only [nsl, Nat.reduceAdd, Nat.reduceLT, Nat.reduceSub] at hH); subst hF; subst hH
  refine WE ?_
  refine WR ?_
  refine al_ef rfl (ef_call0 false (fun _ => cuts_p q w V Fs z (by omega) (by omega)) rfl .fn rfl (by decide) (by kernel_rfl) rfl (fun _ => C0 rfl) (by simp)) ?_
  rintro _ _ ⟨_, _, _, ⟨qc, rfl, rfl⟩, hF, hH⟩
  (try simp only [nsl, Nat.reduceAdd, Nat.reduceLT, Nat.reduceSub] at hF); (try simp only [nsl, Nat.reduceAdd, Nat.reduceLT, Nat.reduceSub] at hH); subst hF; subst hH
  refine WE ?_
  have ep : pltF V Fs [z] = plnF [z] := by rw [pltF, if_neg (by omega)]
  have ec : cutP V Fs z = if plnF [z] ≠ 0 then ([], plnF [z]) else (cutL V Fs z, 0) := by rw [cutP, ep]
  generalize cutP V Fs z = cp at ec ⊢
  obtain ⟨cl, ce⟩ := cp
  refine WR ?_
  refine al_ef rfl (ef_call0 false (fun _ => contoursP_v q w V Fs z (by omega) (by omega)) rfl .fn rfl (by decide) (by kernel_rfl) rfl (fun _ => C0 rfl) (by simp)) ?_
  rintro _ _ ⟨_, _, _, ⟨q1, q2, l, rfl, rfl, hcn⟩, hF, hH⟩
  (try simp only [nsl, Nat.reduceAdd, Nat.reduceLT, Nat.reduceSub] at hF); (try simp only [nsl, Nat.reduceAdd, Nat.reduceLT, Nat.reduceSub] at hH); subst hF; subst hH
  refine WE ?_
  refine WR ?_
  refine al_ef rfl (ef_call0 false (fun _ => ends_p q w V Fs z (by omega) (by omega)) rfl .fn rfl (by decide) (by kernel_rfl) rfl (fun _ => C0 rfl) (by simp)) ?_
  rintro _ _ ⟨_, _, _, ⟨q3, L, rfl, rfl, hen⟩, hF, hH⟩
  (try simp only [nsl, Nat.reduceAdd, Nat.reduceLT, Nat.reduceSub] at hF); (try simp only [nsl, Nat.reduceAdd, Nat.reduceLT, Nat.reduceSub] at hH); subst hF; subst hH
  refine WE ?_
  rw [ep] at hcn hen ⊢
  have ece : ce = plnF [z] := by
    by_cases h : plnF [z] = 0
    · rw [if_neg (by omega)] at ec; injection ec with e1 e2; omega
    · rw [if_pos h] at ec; injection ec
  subst ece
  refine aw_wk (wk_of (K := fun F H => F = [(5, .c (I z)), (6, .c (.r qc (cl.map Cut6.row))), (7, .c (I (plnF [z]))), (8, .c (.r q1 (sidR l))), (9, .c (.r q2 (cloR l))), (10, .c (I (plnF [z]))), (11, .c (.r q3 (sR L))), (12, .c (I (plnF [z])))] ∧ H = []) [] (fun _ => [(5, .c (I z)), (6, .c (.r qc (cl.map Cut6.row))), (7, .c (I (plnF [z]))), (8, .c (.r q1 (sidR l))), (9, .c (.r q2 (cloR l))), (10, .c (I (plnF [z]))), (11, .c (.r q3 (sR L))), (12, .c (I (plnF [z])))]) (fun _ => []) (by decide) (ZNL hE) ZCF ZCH (fun _ => ⟨rfl, rfl⟩)) ?_
  rintro F H ⟨rfl, rfl⟩
  by_cases hp : plnF [z] = 0
  · obtain ⟨_, hz⟩ := pltF_ok (V := V) (Fs := Fs) (z := z) (by rw [ep]; exact hp)
    obtain ⟨cs2, hc2, hL⟩ := hen.2 hp
    have hcon := hcn.2 hp
    rw [if_neg (by omega)] at ec
    injection ec with e1 e2
    subst e1
    obtain ⟨hal, hln, hin⟩ := closed_cuts hM hcf hcon
    have hcs2 : cs2 = l.map Prod.snd := hc2.det hcon
    have hL0 : L = [] := by
      rw [hL, hcs2, endL, show endT (l.map Prod.snd) = [] from ?_]
      · simp [srtS, compG]
      · unfold endT
        rw [List.flatMap_eq_nil_iff]
        intro k hk
        rw [if_pos (hal k hk)]
    subst hL0
    have hok := sgL_ok (z := z) hM
    have hSl := sgL_len V Fs z
    have hsm := hcon.small hok
    have hl1000 : l.length ≤ 1000 := by have := hsm.1; rw [List.length_map] at this; omega
    have hne : ∀ p ∈ l, p.2.1 ≠ [] ∧ p.2.1.length ≤ 1001 := fun p hp => by
      obtain ⟨h1, h2⟩ := hsm.2 p.2 (List.mem_map.2 ⟨p, hp, rfl⟩)
      exact ⟨h1, by omega⟩
    clear hsm
    have hcl : ∀ b ∈ l.map (fun p => p.2.2), b = true := fun b hb => by
      obtain ⟨p, hp, rfl⟩ := List.mem_map.1 hb
      exact hal _ (List.mem_map.2 ⟨p, hp, rfl⟩)
    have hcll : (cutL V Fs z).length ≤ 100000 := by
      have h1 := compG_len (srtS (sdL V Fs z))
      have h2 := srtS_len (sdL V Fs z)
      have h3 := sdL_len V Fs z
      rw [cutL, List.length_map]; omega
    have hcm : ∀ c ∈ cutL V Fs z, ∃ s, Cuts' V z s ∧ c = cutV V z s ∧ s ∈ (l.map Prod.snd).flatMap Prod.fst := fun c hc => by
      obtain ⟨s, hs, rfl⟩ := List.mem_map.1 hc
      exact ⟨s, sdL_cuts hM ((srtS_perm _).subset (compG_mem.1 hs)), rfl, hin s hs⟩
    generalize cutL V Fs z = C at hcm hcll hln ⊢
    have e3 : (C.map Cut6.row).length = C.length := by simp
    have e4 : (sidR l).length = l.length := by simp
    have e5 : (cloR l).length = l.length := by simp
    have e6 : cloR l = bR (l.map fun p => p.2.2) := by simp
    rw [hp]
    refine WR ?_
    refine al_ef rfl (ef_call0 true (fun g => errk_v [0, 0, 0] (g (.o _ 0 3 3)) (by simp)) rfl .fn rfl (by decide) (by kernel_rfl) rfl (fun _ => .cons (.frz rfl rfl rfl rfl rfl) .nil) (fun _ _ _ _ ⟨hu, hH⟩ => by rw [hu, hH]; exact ⟨.c (.inl trivial), by simp⟩)) ?_
    rintro _ _ ⟨_, _, _, ⟨rfl, rfl⟩, hF, hH⟩
    (try simp only [nsl, Nat.reduceAdd, Nat.reduceLT, Nat.reduceSub] at hF); (try simp only [nsl, Nat.reduceAdd, Nat.reduceLT, Nat.reduceSub] at hH); subst hF; subst hH
    refine WE ?_
    refine aw_cond_f rfl ?_
    refine ZZ ?_
    refine WR ?_
    refine al_ef rfl (ef_call0 false (fun _ => hasB_v (l.map fun p => p.2.2) q2 (by simp; omega) hcl) rfl .fn rfl (by decide) (by kernel_rfl) rfl (fun _g => .cons (.c (by simp)) (.cons (.c rfl) .nil)) (by simp)) ?_
    rintro _ _ ⟨_, _, _, ⟨rfl, rfl⟩, hF, hH⟩
    (try simp only [nsl, Nat.reduceAdd, Nat.reduceLT, Nat.reduceSub] at hF); (try simp only [nsl, Nat.reduceAdd, Nat.reduceLT, Nat.reduceSub] at hH); subst hF; subst hH
    refine WE ?_
    refine aw_cond_f rfl ?_
    refine ZZ ?_
    refine WA ?_
    refine WA ?_
    refine aw_loopw (fun m F H => ∃ (j ca : Nat) (A : List Sid2), m + j = l.length ∧ A.length ≤ 1001 * j ∧ A.length ≤ ca ∧ A = ((l.take j).map Prod.snd).flatMap Prod.fst ∧ F = [(6, .c (.r qc (C.map Cut6.row))), (13, .o 0 0 A.length ca), (72, .c (.r q1 (sidR l))), (73, .c (I (sidR l).length)), (74, .c (I j))] ∧ H = [.arr 54 2 ca (sR A)]) ?_ ?_
    · refine wk_of [none] (fun _ => [(6, .c (.r qc (C.map Cut6.row))), (13, .o 0 0 0 0), (72, .c (.r q1 (sidR l))), (73, .c (I (sidR l).length)), (74, .c (I (0 : Nat)))]) (fun _ => [.arr 54 2 0 []]) (by decide) (ZNL hE) ZCF ZCH (fun _ => ?_)
      exact ⟨l.length, 0, 0, [], by omega, by simp, by simp, rfl, rfl, rfl⟩
    rintro m F H ⟨j, ca, A, hj, hAl, hcap, hA, rfl, rfl⟩
    refine WA ?_
    refine aw_if rfl (fun hlt => ?_) (fun hge => ?_)
    · obtain ⟨p, hp'⟩ : ∃ z, l[j]? = some z := ⟨_, List.getElem?_eq_getElem (by omega)⟩
      obtain ⟨_, hpl⟩ := hne p (List.mem_of_getElem? hp')
      have ht := take_snoc hp'
      obtain ⟨pv, ps, pb⟩ := p
      simp only at hpl
      have eS : (sR ps).length = ps.length := by simp
      have hrow : (sidR l)[j]? = some [.r pv (sR ps)] := by rw [List.getElem?_map, hp']; rfl
      refine WA ?_
      refine WR ?_
      refine al_ef rfl (Zapp (KA (t := 64) rfl)) ?_
      rintro _ _ ⟨_, cc, hcc, rfl, rfl⟩
      refine WE ?_
      refine WA ?_
      all_goals (refine wk_of [some 0] (fun _ => [(6, .c (.r qc (C.map Cut6.row))), (13, .o 0 0 (A ++ ps).length _), (72, .c (.r q1 (sidR l))), (73, .c (I (sidR l).length)), (74, .c (I (j + 1 : Nat)))]) (fun _ => _) (by decide) (ZNL hE) ZCF ZCH (fun _ => ?_))
      all_goals (exact ⟨m - 1, by omega, j + 1, _, A ++ ps, by omega, by simp; omega, by simp; omega, by rw [ht, hA]; simp, rfl, by simp [sR]⟩)
    obtain rfl : j = l.length := by omega
    rw [List.take_of_length_le (Nat.le_refl _)] at hA
    rw [← hA] at hln hcm
    refine ZZ ?_
    refine WA ?_
    refine aw_cond_f rfl ?_
    refine ZZ ?_
    refine WA ?_
    refine aw_loopw (fun m F H => ∃ (k : Nat), m + k = C.length ∧ F = [(13, .o 0 0 A.length ca), (87, .c (.r qc (C.map Cut6.row))), (88, .c (I (C.map Cut6.row).length)), (89, .c (I k))] ∧ H = [.arr 54 2 ca (sR A)]) ?_ ?_
    · refine wk_of [some 0] (fun _ => [(13, .o 0 0 A.length ca), (87, .c (.r qc (C.map Cut6.row))), (88, .c (I (C.map Cut6.row).length)), (89, .c (I (0 : Nat)))]) (fun _ => [.arr 54 2 ca (sR A)]) (by decide) (ZNL hE) ZCF ZCH (fun _ => ?_)
      exact ⟨C.length, 0, by omega, rfl, rfl⟩
    rintro m F H ⟨k, hk, rfl, rfl⟩
    refine WA ?_
    refine aw_if rfl (fun hlt => ?_) (fun hge => ?_)
    · obtain ⟨c, hc⟩ : ∃ z, C[k]? = some z := ⟨_, List.getElem?_eq_getElem (by omega)⟩
      obtain ⟨s, hs, hcv, hsA⟩ := hcm c (List.mem_of_getElem? hc)
      have hrow : (C.map Cut6.row)[k]? = some (cutV V z s).row := by rw [List.getElem?_map, hc, hcv]; rfl
      clear hc hcv
      obtain ⟨⟨h1, h2⟩, ⟨h3, h4⟩, h5, h6⟩ := hs
      obtain ⟨sf, st⟩ := s
      simp only at h1 h2 h3 h4 h5 h6
      obtain ⟨ia, ha⟩ : ∃ i : Nat, sf = i := ⟨sf.toNat, by omega⟩
      obtain ⟨ib, hb⟩ : ∃ i : Nat, st = i := ⟨st.toNat, by omega⟩
      subst ha; subst hb
      have ra := vrow (V := V) (i := ia) (by omega)
      have rb := vrow (V := V) (i := ib) (by omega)
      have na := nearI hM.far (i := ia) (by omega)
      have nb := nearI hM.far (i := ib) (by omega)
      have hcv : cutV V z ⟨ia, ib⟩ = ⟨⟨ia, ib⟩, lowF (cutN (vx V ia).x (vx V ib).x (vx V ia).z (vx V ib).z z) ((vx V ib).z - (vx V ia).z), lowF (cutN (vx V ia).y (vx V ib).y (vx V ia).z (vx V ib).z z) ((vx V ib).z - (vx V ia).z)⟩ := rfl
      rw [hcv] at hrow
      clear hcv
      generalize vx V ia = va at ra na h5 h6 hrow ⊢
      generalize vx V ib = vb at rb nb h5 h6 hrow ⊢
      obtain ⟨ax, ay, az⟩ := va
      obtain ⟨bx, by', bz⟩ := vb
      simp only [Vec3.in] at na nb
      simp only at h5 h6
      have q1 := low_between ax bx az bz z h5 h6
      have q2 := low_between ay by' az bz z h5 h6
      generalize lowF (cutN ax bx az bz z) (bz - az) = f1 at q1 hrow
      generalize lowF (cutN ay by' az bz z) (bz - az) = f2 at q2 hrow
      obtain ⟨xn, xd⟩ := f1
      obtain ⟨yn, yd⟩ := f2
      simp only at q1 q2
      have hrow' : (C.map Cut6.row)[k]? = some [I ia, I ib, I xn, I xd, I yn, I yd] := hrow
      have hct : A.contains (⟨ia, ib⟩ : Sid2) = true := by simpa using hsA
      clear hrow
      refine WA ?_
      refine ZZ ?_
      refine WR ?_
      refine al_ef rfl (ef_call0 true (fun g => hasS_v ⟨ia, ib⟩ A (g (.o _ 0 A.length ca)) (by omega)) rfl .fn rfl (by decide) (by kernel_rfl) rfl (fun _ => .cons (.frz rfl rfl (by rw [List.drop_zero, List.take_of_length_le (by simp)]) (by simp) rfl) (.cons (.aL (C0 rfl)) .nil)) (fun _ _ _ _ ⟨hu, hH⟩ => by rw [hu, hH]; exact ⟨.c (.inl trivial), by simp⟩)) ?_
      rintro _ _ ⟨_, _, _, ⟨hu, rfl⟩, hF, hH⟩
      rw [hct] at hu; subst hu
      (try simp only [nsl, Nat.reduceAdd, Nat.reduceLT, Nat.reduceSub] at hF); (try simp only [nsl, Nat.reduceAdd, Nat.reduceLT, Nat.reduceSub] at hH); subst hF; subst hH
      refine WE ?_
      refine aw_cond_f rfl ?_
      refine ZZ ?_
      refine WA ?_
      refine wk_of [some 0] (fun _ => [(13, .o 0 0 A.length ca), (87, .c (.r qc (C.map Cut6.row))), (88, .c (I (C.map Cut6.row).length)), (89, .c (I (k + 1 : Nat)))]) (fun _ => [.arr 54 2 ca (sR A)]) (by decide) (ZNL hE) ZCF ZCH (fun _ => ?_)
      exact ⟨m - 1, by omega, k + 1, by omega, rfl, rfl⟩
    refine ZZ ?_
    refine ZR ?_
    refine al_ef rfl (ef_call0 false (fun _ => ready_a) rfl .fn rfl (by decide) (by kernel_rfl) rfl (fun _ => C0 rfl) (by simp)) ?_
    rintro _ _ ⟨_, _, _, ⟨rfl, rfl⟩, hF, hH⟩
    (try simp only [nsl, Nat.reduceAdd, Nat.reduceLT, Nat.reduceSub] at hF); (try simp only [nsl, Nat.reduceAdd, Nat.reduceLT, Nat.reduceSub] at hH); subst hF; subst hH
    refine WE ?_
    exact aret_1 [] [] rfl rfl rfl (by decide) (ZNK rfl) (fun _ => .nil) rfl
  · refine WR ?_
    refine al_ef rfl (ef_call0 true (fun g => errk_v [plnF [z], plnF [z], plnF [z]] (g (.o _ 0 3 3)) (by simp)) rfl .fn rfl (by decide) (by kernel_rfl) rfl (fun _ => .cons (.frz rfl rfl rfl rfl rfl) .nil) (fun _ _ _ _ ⟨hu, hH⟩ => by rw [hu, hH]; exact ⟨.c (.inl trivial), by simp⟩)) ?_
    rintro _ _ ⟨_, _, _, ⟨rfl, rfl⟩, hF, hH⟩
    (try simp only [nsl, Nat.reduceAdd, Nat.reduceLT, Nat.reduceSub] at hF); (try simp only [nsl, Nat.reduceAdd, Nat.reduceLT, Nat.reduceSub] at hH); subst hF; subst hH
    refine WE ?_
    refine aw_if rfl (fun _ => ?_) (fun h => absurd (show fst0 [plnF [z], plnF [z], plnF [z]] ≠ 0 by rw [fst0, if_neg hp]; exact hp) h)
    refine ZZ ?_
    refine WR ?_
    refine al_ef rfl (ef_call0 true (fun g => planef_v [z] (g (.o 1 0 1 1)) (by simp)) rfl .fn rfl (by decide) (by kernel_rfl) rfl (fun _ => .cons (.frz rfl rfl rfl rfl rfl) .nil) (fun _ _ _ _ ⟨hu, hH⟩ => by rw [hu, hH]; exact ⟨.c (.inl trivial), by simp⟩)) ?_
    rintro _ _ ⟨_, _, _, ⟨rfl, rfl⟩, hF, hH⟩
    (try simp only [nsl, Nat.reduceAdd, Nat.reduceLT, Nat.reduceSub] at hF); (try simp only [nsl, Nat.reduceAdd, Nat.reduceLT, Nat.reduceSub] at hH); subst hF; subst hH
    refine WO ?_
    refine G1 rfl ?_
    refine al_ef rfl (ef_call0 false (fun _ => ready_a) rfl .fn rfl (by decide) (by kernel_rfl) rfl (fun _ => C0 rfl) (by simp)) ?_
    rintro _ _ ⟨_, _, _, ⟨rfl, rfl⟩, hF, hH⟩
    (try simp only [nsl, Nat.reduceAdd, Nat.reduceLT, Nat.reduceSub] at hF); (try simp only [nsl, Nat.reduceAdd, Nat.reduceLT, Nat.reduceSub] at hH); subst hF; subst hH
    refine WE ?_
    exact aret_1 [] [] rfl rfl rfl (by decide) (ZNK rfl) (fun _ => .nil) rfl
end Go.Proofs.YthanangkmjjbaaaGreatDoor
