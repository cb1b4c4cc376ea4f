/- The law CutsLieBetween, walked. -/
import Derived.Test.YthanangkmjjbaaaGreatDoorQbd
import Derived.Test.YthanangkmjjbaaaGreatDoorQbk
import Derived.Test.YthanangkmjjbaaaGreatDoorQbv
set_option linter.unusedSimpArgs false
set_option linter.unusedVariables false
/- The law CutsLieBetween, walked. -/
-- NEWM
namespace Go.Proofs.YthanangkmjjbaaaGreatDoor
open Go Go.RowKit
set_option maxRecDepth 100000
/- ## Plain: a cut lies between both ends -/
theorem cutN_between (p q za zb z : Int) (h1 : za < z) (h2 : z ≤ zb) : min p q * (zb - za) ≤ cutN p q za zb z ∧ cutN p q za zb z ≤ max p q * (zb - za) := by
  have e : cutN p q za zb z = p * (zb - za) + (q - p) * (z - za) := rfl
  have e2 : cutN p q za zb z = q * (zb - za) + (p - q) * (zb - z) := by
    rw [e, show zb - z = (zb - za) - (z - za) by omega]
    generalize zb - za = D
    generalize z - za = t
    rw [Int.mul_sub (p - q) D t, Int.sub_mul q p t, Int.sub_mul p q D, Int.sub_mul p q t]
    omega
  rcases Int.le_total p q with h | h
  · have k1 : 0 ≤ (q - p) * (z - za) := Int.mul_nonneg (by omega) (by omega)
    have k2 : 0 ≤ (q - p) * (zb - z) := Int.mul_nonneg (by omega) (by omega)
    have k3 : (p - q) * (zb - z) = -((q - p) * (zb - z)) := by rw [← Int.neg_mul]; congr 1; omega
    rw [show min p q = p by omega, show max p q = q by omega]
    omega
  · have k1 : 0 ≤ (p - q) * (z - za) := Int.mul_nonneg (by omega) (by omega)
    have k2 : 0 ≤ (p - q) * (zb - z) := Int.mul_nonneg (by omega) (by omega)
    have k3 : (q - p) * (z - za) = -((p - q) * (z - za)) := by rw [← Int.neg_mul]; congr 1; omega
    rw [show min p q = q by omega, show max p q = p by omega]
    omega
theorem low_between (p q za zb z : Int) (h1 : za < z) (h2 : z ≤ zb) : min p q * (lowF (cutN p q za zb z) (zb - za)).d ≤ (lowF (cutN p q za zb z) (zb - za)).n ∧ (lowF (cutN p q za zb z) (zb - za)).n ≤ max p q * (lowF (cutN p q za zb z) (zb - za)).d ∧ 1 ≤ (lowF (cutN p q za zb z) (zb - za)).d ∧ (lowF (cutN p q za zb z) (zb - za)).d ≤ zb - za := by
  obtain ⟨b1, b2⟩ := cutN_between p q za zb z h1 h2
  generalize cutN p q za zb z = N at b1 b2 ⊢
  have hD : 1 ≤ zb - za := by omega
  generalize zb - za = D at b1 b2 hD ⊢
  have hg := gcd_pos' (n := N) hD
  have d1 : ((Int.gcd N D : Nat) : Int) ∣ N := Int.gcd_dvd_left ..
  have d2 : ((Int.gcd N D : Nat) : Int) ∣ D := Int.gcd_dvd_right ..
  have e1 : (lowF N D).n * (Int.gcd N D : Nat) = N := Int.tdiv_mul_cancel d1
  have e2 : (lowF N D).d * (Int.gcd N D : Nat) = D := Int.tdiv_mul_cancel d2
  generalize (lowF N D).n = n at e1 ⊢
  generalize (lowF N D).d = d at e2 ⊢
  generalize ((Int.gcd N D : Nat) : Int) = g at e1 e2 hg
  have c1 : min p q * d ≤ n := by
    refine Int.le_of_mul_le_mul_right (a := g) ?_ (by omega)
    rw [Int.mul_assoc, e2, e1]; exact b1
  have c2 : n ≤ max p q * d := by
    refine Int.le_of_mul_le_mul_right (a := g) ?_ (by omega)
    rw [Int.mul_assoc, e2, e1]; exact b2
  have c3 : 1 ≤ d := by
    rcases Int.lt_or_le 0 d with h | h
    · omega
    · have : d * g ≤ 0 * g := Int.mul_le_mul_of_nonneg_right h (by omega)
      omega
  refine ⟨c1, c2, c3, ?_⟩
  have : d * 1 ≤ d * g := Int.mul_le_mul_of_nonneg_left hg (by omega)
  omega
theorem btw_v (n d p q : Int) (h1 : min p q * d ≤ n) (h2 : n ≤ max p q * d) (h3 : 1 ≤ d ∧ d ≤ 400000) (h4 : -400000 ≤ p ∧ p ≤ 400000) (h5 : -400000 ≤ q ∧ q ≤ 400000) : ACalls Tryz.prog 19 [.a [.c (I n), .c (I d)], .c (I p), .c (I q)] [] fun u H => u = .c (B true) ∧ H = [] := by
  have p1 := prod_in (x := min p q) (y := d) (M := 400000) (by omega) (by omega) (by omega)
  have p2 := prod_in (x := max p q) (y := d) (M := 400000) (by omega) (by omega) (by omega)
  refine acalls_of (N := 27) Tryz.func19 rfl rfl (by simp) fun E hE => ?_
  refine WA ?_
  refine WA ?_
  exact aret_1 [] _ rfl rfl rfl (by decide) (ZNK rfl) (fun _ => .nil) ⟨rfl, rfl⟩

/- ## The walk -/
theorem cutL_mem {V : List Vec3} {Fs : List Fac3} {z : Int} (hM : MOk V Fs) {c : Cut6} (h : c ∈ cutL V Fs z) : ∃ s, Cuts' V z s ∧ c = cutV V z s := by
  obtain ⟨s, hs, rfl⟩ := List.mem_map.1 h
  exact ⟨s, sdL_cuts hM ((srtS_perm _).subset (compG_mem.1 hs)), rfl⟩
set_option maxHeartbeats 8000000 in
theorem law_cuts (v : Value) (zs : List Int) (hs : StrOk zs) : ACalls Tryz.prog 4 [.c (.r v (zs.map fun z => [I z]))] [] fun u H => u = .c (B true) := by
  refine acalls_of (N := 89) Tryz.func4 rfl rfl (by simp) fun E hE => ?_
  refine WA ?_
  refine WA ?_
  refine WR ?_
  refine al_ef rfl (ef_callm false (fun _ => rightmesh_v _ _ _ hs (by omega) (by omega)) rfl .fn rfl (by decide) (by kernel_rfl) rfl rfl (fun _g => .cons (.p rfl) .nil) (fun _g => .cons (.c rfl) (.cons (.c rfl) .nil)) (by simp)) ?_
  rintro F1 H1 ⟨_, _, _, _, ⟨a2, q, w, V, Fs, rfl, hq, ha3, ha4, hV, hFl, hmf⟩, hF, hH⟩
  injection hq with hq1 hq2; subst hq1; subst hq2
  (try simp only [nsl, Nat.reduceAdd, Nat.reduceLT, Nat.reduceSub] at hF); (try simp only [nsl, Nat.reduceAdd, Nat.reduceLT, Nat.reduceSub] at hH); subst hF; subst hH
  refine WE ?_
  have hM : MOk V Fs := mok_of hmf
  refine WR ?_
  refine al_ef rfl (ef_callm false (fun _ => aplane_v _ _ _ q w V Fs hs (by omega) (by omega) (by omega)) rfl .fn rfl (by decide) (by kernel_rfl) rfl rfl (fun _g => .cons (.p rfl) (.cons (.aL (C0 rfl)) .nil)) (fun _g => .cons (.c rfl) (.cons (.c rfl) .nil)) (by simp)) ?_
  rintro F1 H1 ⟨_, _, _, _, ⟨z, az, rfl, hq, hbz, hcz⟩, hF, hH⟩
  injection hq with hq1 hq2; subst hq1; subst hq2
  (try simp only [nsl, Nat.reduceAdd, Nat.reduceLT, Nat.reduceSub] at hF); (try simp only [nsl, Nat.reduceAdd, Nat.reduceLT, Nat.reduceSub] at hH); subst hF; subst hH
  refine WE ?_
  refine WR ?_
  refine al_ef rfl (ef_call0 false (fun _ => cuts_p q w V Fs z (by omega) (by omega)) rfl .fn rfl (by decide) (by kernel_rfl) rfl (fun _ => C0 rfl) (by simp)) ?_
  rintro _ _ ⟨_, _, _, ⟨qc, rfl, rfl⟩, hF, hH⟩
  (try simp only [nsl, Nat.reduceAdd, Nat.reduceLT, Nat.reduceSub] at hF); (try simp only [nsl, Nat.reduceAdd, Nat.reduceLT, Nat.reduceSub] at hH); subst hF; subst hH
  refine WE ?_
  have ep : pltF V Fs [z] = plnF [z] := by rw [pltF, if_neg (by omega)]
  have ec : cutP V Fs z = if plnF [z] ≠ 0 then ([], plnF [z]) else (cutL V Fs z, 0) := by rw [cutP, ep]
  generalize cutP V Fs z = cp at ec ⊢
  obtain ⟨cl, ce⟩ := cp
  refine aw_wk (wk_of (K := fun F H => F = [(4, .p 0 0 0), (5, .c (I z)), (6, .c (.r qc (cl.map Cut6.row))), (7, .c (I ce))] ∧ H = [mBox q w V (fR Fs)]) [some 1] (fun _ => [(4, .p 0 0 0), (5, .c (I z)), (6, .c (.r qc (cl.map Cut6.row))), (7, .c (I ce))]) (fun _ => [mBox q w V (fR Fs)]) (by decide) (ZNL hE) ZCF ZCH (fun _ => ⟨rfl, rfl⟩)) ?_
  rintro F H ⟨rfl, rfl⟩
  refine WA ?_
  refine aw_if rfl (fun h0 => ?_) (fun h0 => ?_)
  · have hp : plnF [z] ≠ 0 := fun h => by
      rw [if_neg (by omega)] at ec; injection ec with e1 e2; exact h0 e2
    rw [if_pos hp] at ec
    injection ec with e1 e2
    subst e1; subst e2
    refine WR ?_
    refine al_ef rfl (ef_call0 true (fun g => planef_v [z] (g (.o 1 0 1 1)) (by simp)) rfl .fn rfl (by decide) (by kernel_rfl) rfl (fun _ => .cons (.frz rfl rfl rfl rfl rfl) .nil) (fun _ _ _ _ ⟨hu, hH⟩ => by rw [hu, hH]; exact ⟨.c (.inl trivial), by simp⟩)) ?_
    rintro _ _ ⟨_, _, _, ⟨rfl, rfl⟩, hF, hH⟩
    (try simp only [nsl, Nat.reduceAdd, Nat.reduceLT, Nat.reduceSub] at hF); (try simp only [nsl, Nat.reduceAdd, Nat.reduceLT, Nat.reduceSub] at hH); subst hF; subst hH
    refine WO ?_
    refine G1 rfl ?_
    refine al_ef rfl (ef_call0 false (fun _ => ready_a) rfl .fn rfl (by decide) (by kernel_rfl) rfl (fun _ => C0 rfl) (by simp)) ?_
    rintro _ _ ⟨_, _, _, ⟨rfl, rfl⟩, hF, hH⟩
    (try simp only [nsl, Nat.reduceAdd, Nat.reduceLT, Nat.reduceSub] at hF); (try simp only [nsl, Nat.reduceAdd, Nat.reduceLT, Nat.reduceSub] at hH); subst hF; subst hH
    refine WE ?_
    exact aret_1 [] [] rfl rfl rfl (by decide) (ZNK rfl) (fun _ => .nil) rfl
  have hp : plnF [z] = 0 := by
    by_cases h : plnF [z] = 0
    · exact h
    · rw [if_pos h] at ec; injection ec with e1 e2; omega
  obtain ⟨_, hz⟩ := pltF_ok (V := V) (Fs := Fs) (z := z) (by rw [ep]; exact hp)
  rw [if_neg (by omega)] at ec
  injection ec with e1 e2
  subst e1; subst e2
  have hcm : ∀ c ∈ cutL V Fs z, ∃ s, Cuts' V z s ∧ c = cutV V z s := fun c hc => cutL_mem hM hc
  have hcl : (cutL V Fs z).length ≤ 100000 := by
    have h1 := compG_len (srtS (sdL V Fs z))
    have h2 := srtS_len (sdL V Fs z)
    have h3 := sdL_len V Fs z
    rw [cutL, List.length_map]; omega
  generalize cutL V Fs z = C at hcm hcl ⊢
  have e3 : (C.map Cut6.row).length = C.length := by simp
  refine ZZ ?_
  refine WA ?_
  refine aw_loopw (fun m F H => ∃ (k : Nat), m + k = C.length ∧ F = [(4, .p 0 0 0), (5, .c (I z)), (37, .c (.r qc (C.map Cut6.row))), (38, .c (I (C.map Cut6.row).length)), (39, .c (I k))] ∧ H = [mBox q w V (fR Fs)]) ?_ ?_
  · refine wk_of [some 0] (fun _ => [(4, .p 0 0 0), (5, .c (I z)), (37, .c (.r qc (C.map Cut6.row))), (38, .c (I (C.map Cut6.row).length)), (39, .c (I (0 : Nat)))]) (fun _ => [mBox q w V (fR Fs)]) (by decide) (ZNL hE) ZCF ZCH (fun _ => ?_)
    exact ⟨C.length, 0, by omega, rfl, rfl⟩
  rintro m F H ⟨k, hk, rfl, rfl⟩
  refine WA ?_
  refine aw_if rfl (fun hlt => ?_) (fun hge => ?_)
  · obtain ⟨c, hc⟩ : ∃ z, C[k]? = some z := ⟨_, List.getElem?_eq_getElem (by omega)⟩
    obtain ⟨s, hs, hcv⟩ := hcm c (List.mem_of_getElem? hc)
    have hrow : (C.map Cut6.row)[k]? = some (cutV V z s).row := by rw [List.getElem?_map, hc, hcv]; rfl
    clear hc hcv
    obtain ⟨⟨h1, h2⟩, ⟨h3, h4⟩, h5, h6⟩ := hs
    obtain ⟨sf, st⟩ := s
    simp only at h1 h2 h3 h4 h5 h6
    obtain ⟨ia, ha⟩ : ∃ i : Nat, sf = i := ⟨sf.toNat, by omega⟩
    obtain ⟨ib, hb⟩ : ∃ i : Nat, st = i := ⟨st.toNat, by omega⟩
    subst ha; subst hb
    have ra := vrow (V := V) (i := ia) (by omega)
    have rb := vrow (V := V) (i := ib) (by omega)
    have na := nearI hM.far (i := ia) (by omega)
    have nb := nearI hM.far (i := ib) (by omega)
    have hcv : cutV V z ⟨ia, ib⟩ = ⟨⟨ia, ib⟩, lowF (cutN (vx V ia).x (vx V ib).x (vx V ia).z (vx V ib).z z) ((vx V ib).z - (vx V ia).z), lowF (cutN (vx V ia).y (vx V ib).y (vx V ia).z (vx V ib).z z) ((vx V ib).z - (vx V ia).z)⟩ := rfl
    rw [hcv] at hrow
    clear hcv
    generalize vx V ia = va at ra na h5 h6 hrow ⊢
    generalize vx V ib = vb at rb nb h5 h6 hrow ⊢
    obtain ⟨ax, ay, az⟩ := va
    obtain ⟨bx, by', bz⟩ := vb
    simp only [Vec3.in] at na nb
    simp only at h5 h6
    have q1 := low_between ax bx az bz z h5 h6
    have q2 := low_between ay by' az bz z h5 h6
    generalize lowF (cutN ax bx az bz z) (bz - az) = f1 at q1 hrow
    generalize lowF (cutN ay by' az bz z) (bz - az) = f2 at q2 hrow
    obtain ⟨xn, xd⟩ := f1
    obtain ⟨yn, yd⟩ := f2
    simp only at q1 q2
    have hrow' : (C.map Cut6.row)[k]? = some [I ia, I ib, I xn, I xd, I yn, I yd] := hrow
    clear hrow
    refine WA ?_
    refine aw_cut (fun F H => F = [(4, .p 0 0 0), (5, .c (I z)), (9, .p 1 0 0), (10, .p 2 0 0), (11, .p 3 0 0), (37, .c (.r qc (C.map Cut6.row))), (38, .c (I (C.map Cut6.row).length)), (39, .c (I k))] ∧ H = [mBox q w V (fR Fs), .box [.c (I ia), .c (I ib), .c (I xn), .c (I xd), .c (I yn), .c (I yd)], .box [.c (I ax), .c (I ay), .c (I az)], .box [.c (I bx), .c (I by'), .c (I bz)]]) ?_ ?_ wk_aw
    · refine ZZ ?_
      refine aw_regionM [[(0, none), (1, none), (2, none), (3, none), (4, none), (5, none), (6, none), (7, none), (8, none), (9, none), (10, none), (11, none), (12, none), (13, none), (14, some [0, 1, 2, 3, 4, 5, 6, 7, 8, 9, 10, 11, 12, 13]), (15, some [0, 1, 2, 3, 4, 5, 6, 7, 8, 9, 10, 11, 12, 13]), (16, some [7, 8, 9, 10, 11, 12, 13]), (17, some [])], [(0, none), (1, none), (2, none), (3, none), (4, none), (5, none), (6, none), (7, none), (8, none), (9, none), (10, none), (11, none), (12, none), (13, none), (15, some [0, 1, 2, 3, 4, 5, 6, 7, 8, 9, 10, 11, 12, 13]), (14, some [0, 1, 2, 3, 4, 5, 6, 7, 8, 9, 10, 11, 12, 13]), (16, some [7, 8, 9, 10, 11, 12, 13]), (17, some [])]] hMixed (by kernel_rfl) ?_
      focus
        refine WM ?_
        refine am_two (by rfl) (by rfl) (by rfl) ?_ ?_
        rotate_left
        refine WN ?_
        rotate_right
        refine WN ?_
      all_goals (first | exact wk_of [some 0, some 1, some 2, some 3] (fun _ => [(4, .p 0 0 0), (5, .c (I z)), (9, .p 1 0 0), (10, .p 2 0 0), (11, .p 3 0 0), (37, .c (.r qc (C.map Cut6.row))), (38, .c (I (C.map Cut6.row).length)), (39, .c (I k))]) (fun _ => [mBox q w V (fR Fs), .box [.c (I ia), .c (I ib), .c (I xn), .c (I xd), .c (I yn), .c (I yd)], .box [.c (I ax), .c (I ay), .c (I az)], .box [.c (I bx), .c (I by'), .c (I bz)]]) (by decide) (ZNL hE) ZCF ZCH (fun _ => ⟨rfl, rfl⟩) | exact wk_of [some 0, some 1, some 3, some 2] (fun _ => [(4, .p 0 0 0), (5, .c (I z)), (9, .p 1 0 0), (10, .p 2 0 0), (11, .p 3 0 0), (37, .c (.r qc (C.map Cut6.row))), (38, .c (I (C.map Cut6.row).length)), (39, .c (I k))]) (fun _ => [mBox q w V (fR Fs), .box [.c (I ia), .c (I ib), .c (I xn), .c (I xd), .c (I yn), .c (I yd)], .box [.c (I ax), .c (I ay), .c (I az)], .box [.c (I bx), .c (I by'), .c (I bz)]]) (by decide) (ZNL hE) ZCF ZCH (fun _ => ⟨rfl, rfl⟩))
    rintro F H ⟨rfl, rfl⟩
    refine WA ?_
    refine aw_cond_f rfl ?_
    refine ZZ ?_
    refine WA ?_
    refine WR ?_
    refine al_ef rfl (ef_call0 false (fun _ => btw_v xn xd ax bx (by omega) (by omega) (by omega) (by omega) (by omega)) rfl (.clo rfl) rfl (by decide) (by kernel_rfl) rfl (fun _ => C0 rfl) (by simp)) ?_
    rintro _ _ ⟨_, _, _, ⟨rfl, rfl⟩, hF, hH⟩
    (try simp only [nsl, Nat.reduceAdd, Nat.reduceLT, Nat.reduceSub] at hF); (try simp only [nsl, Nat.reduceAdd, Nat.reduceLT, Nat.reduceSub] at hH); subst hF; subst hH
    refine WO ?_
    refine G1 rfl ?_
    refine al_ef rfl (ef_call0 false (fun _ => btw_v yn yd ay by' (by omega) (by omega) (by omega) (by omega) (by omega)) rfl (.clo rfl) rfl (by decide) (by kernel_rfl) rfl (fun _ => C0 rfl) (by simp)) ?_
    rintro _ _ ⟨_, _, _, ⟨rfl, rfl⟩, hF, hH⟩
    (try simp only [nsl, Nat.reduceAdd, Nat.reduceLT, Nat.reduceSub] at hF); (try simp only [nsl, Nat.reduceAdd, Nat.reduceLT, Nat.reduceSub] at hH); subst hF; subst hH
    refine WE ?_
    refine aw_cond_f rfl ?_
    refine ZZ ?_
    refine WA ?_
    refine wk_of [some 0] (fun _ => [(4, .p 0 0 0), (5, .c (I z)), (37, .c (.r qc (C.map Cut6.row))), (38, .c (I (C.map Cut6.row).length)), (39, .c (I (k + 1 : Nat)))]) (fun _ => [mBox q w V (fR Fs)]) (by decide) (ZNL hE) ZCF ZCH (fun _ => ?_)
    exact ⟨m - 1, by omega, k + 1, by omega, rfl, rfl⟩
  refine ZZ ?_
  refine ZR ?_
  refine al_ef rfl (ef_call0 false (fun _ => ready_a) rfl .fn rfl (by decide) (by kernel_rfl) rfl (fun _ => C0 rfl) (by simp)) ?_
  rintro _ _ ⟨_, _, _, ⟨rfl, rfl⟩, hF, hH⟩
  (try simp only [nsl, Nat.reduceAdd, Nat.reduceLT, Nat.reduceSub] at hF); (try simp only [nsl, Nat.reduceAdd, Nat.reduceLT, Nat.reduceSub] at hH); subst hF; subst hH
  refine WE ?_
  exact aret_1 [] [] rfl rfl rfl (by decide) (ZNK rfl) (fun _ => .nil) rfl
end Go.Proofs.YthanangkmjjbaaaGreatDoor
