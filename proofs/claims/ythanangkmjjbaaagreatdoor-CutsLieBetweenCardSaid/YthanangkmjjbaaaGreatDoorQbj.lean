/- Faults of planes, orders of sides, planes of the stream, by value. -/
import Derived.Test.YthanangkmjjbaaaGreatDoorQbh
import Derived.Test.YthanangkmjjbaaaGreatDoorQbi
import Derived.Test.YthanangkmjjbaaaGreatDoorQbg
import Derived.Test.YthanangkmjjbaaaGreatDoorQbe
set_option linter.unusedSimpArgs false
set_option linter.unusedVariables false
/- Adaptive tops: the program's, by value. -/
-- NEWM
namespace Go.Proofs.YthanangkmjjbaaaGreatDoor
open Go Go.RowKit
set_option maxRecDepth 100000
def adL (V : List Vec3) (Fs : List Fac3) (least most off : Int) : List Int := tops (stepA V Fs least most off) (hiZ V Fs) (loZ V Fs)
def adpR (V : List Vec3) (Fs : List Fac3) (least most off : Int) : List Int × Int := if 1000 < (adL V Fs least most off).length then ([], 2) else (adL V Fs least most off, 0)
def adpP (V : List Vec3) (Fs : List Fac3) (least most off : Int) : List Int × Int :=
  if mshF V Fs ≠ 0 then ([], mshF V Fs) else if (outH least 1 10000 || outH most least 10000 || outH off 0 10000) = true then ([], 1) else adpR V Fs least most off
theorem outside_b (n lo hi : Int) (b : Bool) (h : outH n lo hi = b) : ACalls Tryz.prog 80 [.c (I n), .c (I lo), .c (I hi)] [] fun u H => u = .c (B b) ∧ H = [] := h ▸ outside_v n lo hi
theorem slL_low {V : List Vec3} {Fs : List Fac3} (hM : MOk V Fs) (off most : Int) : ∀ s ∈ slL V Fs off most, -1000000 ≤ s.low ∧ s.low ≤ 1000000 := fun s hs => by
  obtain ⟨f, hf, rfl⟩ := List.mem_map.1 hs
  have hf' := (List.mem_filter.1 hf).1
  have h1 : (slOf V off most f).low ∈ zs V Fs := List.mem_flatMap.2 ⟨f, hf', minL_mem (by simp [fzs])⟩
  have := zs_near hM _ h1
  omega
set_option maxHeartbeats 4000000 in
theorem adaptive_p (v w : Value) (V : List Vec3) (Fs : List Fac3) (least most off : Int) (hVl : V.length ≤ 1000000) (hFl : Fs.length ≤ 1000000) : ACalls Tryz.prog 31 [mshA v w V Fs, .c (I least), .c (I most), .c (I off)] [] fun u H => ∃ q, u = .t [.c (.r q (zR (adpP V Fs least most off).1)), .c (I (adpP V Fs least most off).2)] ∧ H = [] := by
  refine acalls_of (N := 71) Tryz.func31 rfl rfl (by simp) fun E hE => ?_
  refine WA ?_
  refine WR ?_
  refine al_ef rfl (ef_call0 false (fun _ => checkmesh_v v w V Fs (by omega) (by omega)) rfl .fn rfl (by decide) (by kernel_rfl) rfl (fun _ => C0 rfl) (by simp)) ?_
  rintro _ _ ⟨_, _, _, ⟨rfl, rfl⟩, hF, hH⟩
  (try simp only [nsl, Nat.reduceAdd, Nat.reduceLT, Nat.reduceSub] at hF); (try simp only [nsl, Nat.reduceAdd, Nat.reduceLT, Nat.reduceSub] at hH); subst hF; subst hH
  refine WE ?_
  refine WA ?_
  refine aw_if rfl (fun hv => ?_) (fun hv => ?_)
  · refine WA ?_
    exact aret_2 [] _ rfl rfl rfl rfl rfl (by decide) (ZNK rfl) (fun _ => .nil) ⟨_, by rw [adpP, if_pos hv]; rfl, rfl⟩
  refine ZZ ?_
  have hM : MOk V Fs := mok_of (by omega)
  have e0 : adpP V Fs least most off = if (outH least 1 10000 || outH most least 10000 || outH off 0 10000) = true then ([], 1) else adpR V Fs least most off := by rw [adpP, if_neg hv]
  cases h1 : outH least 1 10000 with
  | true =>
    refine WR ?_
    refine al_ef rfl (ef_call0 false (fun _ => isheight_v least true h1) rfl .fn rfl (by decide) (by kernel_rfl) rfl (fun _g => .cons (.c rfl) .nil) (by simp)) ?_
    rintro _ _ ⟨_, _, _, ⟨rfl, rfl⟩, hF, hH⟩
    (try simp only [nsl, Nat.reduceAdd, Nat.reduceLT, Nat.reduceSub] at hF); (try simp only [nsl, Nat.reduceAdd, Nat.reduceLT, Nat.reduceSub] at hH); subst hF; subst hH
    refine WE ?_
    refine aw_cond_t rfl ?_
    refine WA ?_
    exact aret_2 [] _ rfl rfl rfl rfl rfl (by decide) (ZNK rfl) (fun _ => .nil) ⟨_, by rw [e0, h1]; rfl, rfl⟩
  | false =>
    cases h2 : outH most least 10000 with
    | true =>
      refine WR ?_
      refine al_ef rfl (ef_call0 false (fun _ => isheight_v least false h1) rfl .fn rfl (by decide) (by kernel_rfl) rfl (fun _g => .cons (.c rfl) .nil) (by simp)) ?_
      rintro _ _ ⟨_, _, _, ⟨rfl, rfl⟩, hF, hH⟩
      (try simp only [nsl, Nat.reduceAdd, Nat.reduceLT, Nat.reduceSub] at hF); (try simp only [nsl, Nat.reduceAdd, Nat.reduceLT, Nat.reduceSub] at hH); subst hF; subst hH
      refine WO ?_
      refine G1 rfl ?_
      refine al_ef rfl (ef_call0 false (fun _ => outside_b most least 10000 true h2) rfl .fn rfl (by decide) (by kernel_rfl) rfl (fun _g => .cons (.c rfl) (.cons (.c rfl) (.cons (.c rfl) .nil))) (by simp)) ?_
      rintro _ _ ⟨_, _, _, ⟨rfl, rfl⟩, hF, hH⟩
      (try simp only [nsl, Nat.reduceAdd, Nat.reduceLT, Nat.reduceSub] at hF); (try simp only [nsl, Nat.reduceAdd, Nat.reduceLT, Nat.reduceSub] at hH); subst hF; subst hH
      refine WE ?_
      refine aw_cond_t rfl ?_
      refine WA ?_
      exact aret_2 [] _ rfl rfl rfl rfl rfl (by decide) (ZNK rfl) (fun _ => .nil) ⟨_, by rw [e0, h1, h2]; rfl, rfl⟩
    | false =>
      cases h3 : outH off 0 10000 with
      | true =>
        refine WR ?_
        refine al_ef rfl (ef_call0 false (fun _ => isheight_v least false h1) rfl .fn rfl (by decide) (by kernel_rfl) rfl (fun _g => .cons (.c rfl) .nil) (by simp)) ?_
        rintro _ _ ⟨_, _, _, ⟨rfl, rfl⟩, hF, hH⟩
        (try simp only [nsl, Nat.reduceAdd, Nat.reduceLT, Nat.reduceSub] at hF); (try simp only [nsl, Nat.reduceAdd, Nat.reduceLT, Nat.reduceSub] at hH); subst hF; subst hH
        refine WO ?_
        refine G1 rfl ?_
        refine al_ef rfl (ef_call0 false (fun _ => outside_b most least 10000 false h2) rfl .fn rfl (by decide) (by kernel_rfl) rfl (fun _g => .cons (.c rfl) (.cons (.c rfl) (.cons (.c rfl) .nil))) (by simp)) ?_
        rintro _ _ ⟨_, _, _, ⟨rfl, rfl⟩, hF, hH⟩
        (try simp only [nsl, Nat.reduceAdd, Nat.reduceLT, Nat.reduceSub] at hF); (try simp only [nsl, Nat.reduceAdd, Nat.reduceLT, Nat.reduceSub] at hH); subst hF; subst hH
        refine WO ?_
        refine G1 rfl ?_
        refine al_ef rfl (ef_call0 false (fun _ => outside_b off 0 10000 true h3) rfl .fn rfl (by decide) (by kernel_rfl) rfl (fun _g => .cons (.c rfl) (.cons (.c rfl) (.cons (.c rfl) .nil))) (by simp)) ?_
        rintro _ _ ⟨_, _, _, ⟨rfl, rfl⟩, hF, hH⟩
        (try simp only [nsl, Nat.reduceAdd, Nat.reduceLT, Nat.reduceSub] at hF); (try simp only [nsl, Nat.reduceAdd, Nat.reduceLT, Nat.reduceSub] at hH); subst hF; subst hH
        refine WE ?_
        refine aw_cond_t rfl ?_
        refine WA ?_
        exact aret_2 [] _ rfl rfl rfl rfl rfl (by decide) (ZNK rfl) (fun _ => .nil) ⟨_, by rw [e0, h1, h2, h3]; rfl, rfl⟩
      | false =>
        refine WR ?_
        refine al_ef rfl (ef_call0 false (fun _ => isheight_v least false h1) rfl .fn rfl (by decide) (by kernel_rfl) rfl (fun _g => .cons (.c rfl) .nil) (by simp)) ?_
        rintro _ _ ⟨_, _, _, ⟨rfl, rfl⟩, hF, hH⟩
        (try simp only [nsl, Nat.reduceAdd, Nat.reduceLT, Nat.reduceSub] at hF); (try simp only [nsl, Nat.reduceAdd, Nat.reduceLT, Nat.reduceSub] at hH); subst hF; subst hH
        refine WO ?_
        refine G1 rfl ?_
        refine al_ef rfl (ef_call0 false (fun _ => outside_b most least 10000 false h2) rfl .fn rfl (by decide) (by kernel_rfl) rfl (fun _g => .cons (.c rfl) (.cons (.c rfl) (.cons (.c rfl) .nil))) (by simp)) ?_
        rintro _ _ ⟨_, _, _, ⟨rfl, rfl⟩, hF, hH⟩
        (try simp only [nsl, Nat.reduceAdd, Nat.reduceLT, Nat.reduceSub] at hF); (try simp only [nsl, Nat.reduceAdd, Nat.reduceLT, Nat.reduceSub] at hH); subst hF; subst hH
        refine WO ?_
        refine G1 rfl ?_
        refine al_ef rfl (ef_call0 false (fun _ => outside_b off 0 10000 false h3) rfl .fn rfl (by decide) (by kernel_rfl) rfl (fun _g => .cons (.c rfl) (.cons (.c rfl) (.cons (.c rfl) .nil))) (by simp)) ?_
        rintro _ _ ⟨_, _, _, ⟨rfl, rfl⟩, hF, hH⟩
        (try simp only [nsl, Nat.reduceAdd, Nat.reduceLT, Nat.reduceSub] at hF); (try simp only [nsl, Nat.reduceAdd, Nat.reduceLT, Nat.reduceSub] at hH); subst hF; subst hH
        refine WE ?_
        refine aw_cond_f rfl ?_
        refine ZZ ?_
        rw [h1, h2, h3] at e0
        simp only [outH, Bool.or_eq_false_iff, decide_eq_false_iff_not] at h1 h2 h3
        have n1 := lo_near hM
        have n2 := hi_near hM
        have hlf := hM.lf
        have hsn := slL_len V Fs off most
        have hsl := slL_low hM off most
        refine WR ?_
        refine al_ef rfl (ef_call0 false (fun _ => boxof_v v w V Fs hM) rfl .fn rfl (by decide) (by kernel_rfl) rfl (fun _ => C0 rfl) (by simp)) ?_
        rintro _ _ ⟨_, _, _, ⟨⟨lx, ly, lz⟩, ⟨hx, hy, hz⟩, rfl, rfl, rfl, rfl⟩, hF, hH⟩
        (try simp only [nsl, Nat.reduceAdd, Nat.reduceLT, Nat.reduceSub] at hF); (try simp only [nsl, Nat.reduceAdd, Nat.reduceLT, Nat.reduceSub] at hH); subst hF; subst hH
        refine WE ?_
        refine WR ?_
        refine al_ef rfl (ef_call0 false (fun _ => slants_v v w V Fs off most hM (by omega) (by omega)) rfl .fn rfl (by decide) (by kernel_rfl) rfl (fun _ => C0 rfl) (by simp)) ?_
        rintro _ _ ⟨_, _, _, ⟨q, rfl, rfl⟩, hF, hH⟩
        (try simp only [nsl, Nat.reduceAdd, Nat.reduceLT, Nat.reduceSub] at hF); (try simp only [nsl, Nat.reduceAdd, Nat.reduceLT, Nat.reduceSub] at hH); subst hF; subst hH
        refine WE ?_
        refine WA ?_
        refine WA ?_
        have hT : ∀ z, 1 ≤ stepA V Fs least most off z := fun z => by
          have := stepA_ge (V := V) (F := Fs) (least := least) (most := most) (off := off) (z := z)
          omega
        have e5 : adpR V Fs least most off = if 1000 < (tops (stepA V Fs least most off) (hiZ V Fs) (loZ V Fs)).length then ([], 2) else (tops (stepA V Fs least most off) (hiZ V Fs) (loZ V Fs), 0) := rfl
        generalize hTL : tops (stepA V Fs least most off) (hiZ V Fs) (loZ V Fs) = L at e5
        refine aw_loopw (fun m F H => ∃ (z : Int) (c : Nat) (O : List Int), m = (hiZ V Fs - z).toNat ∧ -100000 ≤ z ∧ z ≤ 100000 ∧ O.length ≤ 1000 ∧ O ++ tops (stepA V Fs least most off) (hiZ V Fs) z = L ∧ F = [(1, .c (I least)), (2, .c (I most)), (12, .p 0 0 0), (13, .c (.r q ((slL V Fs off most).map Slnt.row))), (14, .o 1 0 O.length c), (15, .c (I z))] ∧ H = [vBox hx hy (hiZ V Fs), .arr 3 1 c (zR O)]) ?_ ?_
        · refine wk_of [some 2, none] (fun _ => [(1, .c (I least)), (2, .c (I most)), (12, .p 0 0 0), (13, .c (.r q ((slL V Fs off most).map Slnt.row))), (14, .o 1 0 0 0), (15, .c (I (loZ V Fs)))]) (fun _ => [vBox hx hy (hiZ V Fs), .arr 3 1 0 []]) (by decide) (ZNL hE) ZCF ZCH (fun _ => ?_)
          exact ⟨_, loZ V Fs, 0, [], rfl, by omega, by omega, by simp, by simpa using hTL, rfl, rfl⟩
        rintro m F H ⟨z, c, O, hm, hz1, hz2, hO, hOL, rfl, rfl⟩
        refine WA ?_
        refine aw_if rfl (fun hlt => ?_) (fun hge => ?_)
        · have h4 := thk_nn (V := V) (F := Fs) (off := off) (most := most) (z := z) (by omega) (by omega)
          have h5 : 0 ≤ thkL (slL V Fs off most) z most / least := Int.ediv_nonneg h4.1 (by omega)
          have h6 : 0 ≤ thkL (slL V Fs off most) z most / least * least := Int.mul_nonneg h5 (by omega)
          have h7 : thkL (slL V Fs off most) z most / least * least ≤ thkL (slL V Fs off most) z most := Int.ediv_mul_le _ (by omega)
          have hts := tops_step hT hlt
          have hTz := hT z
          have hsd : stepA V Fs least most off z = max least (thkL (slL V Fs off most) z most / least * least) := rfl
          rw [hts] at hOL
          refine ZZ ?_
          refine aw_regionT [(0, none), (1, none), (2, none), (3, none), (4, none), (5, none), (6, none), (8, none), (10, none), (7, some [0, 1, 2, 3, 8, 10]), (9, none), (11, none), (12, none), (13, none), (14, none), (15, none)] hMixed (by kernel_rfl) ?_
          refine WP ?_
          refine at_ef rfl rfl (ef_call0 false (fun _ => thick_v (slL V Fs off most) q z most (by omega) (by omega) hsl) rfl .fn rfl (by decide) (by kernel_rfl) rfl (fun _ => C0 rfl) (by simp)) ?_
          rintro _ _ ⟨_, _, _, ⟨rfl, rfl⟩, hF, hH⟩
          (try simp only [nsl, Nat.reduceAdd, Nat.reduceLT, Nat.reduceSub] at hF); (try simp only [nsl, Nat.reduceAdd, Nat.reduceLT, Nat.reduceSub] at hH); subst hF; subst hH
          refine ⟨ag_cons (by first | exact ag_rd rfl rfl rfl (ZX (KF (t := 34) (f := 2) rfl rfl)) rfl) (ag_cons (by first | exact ag_rd rfl rfl rfl (ZL (KK (t := 3) rfl)) rfl) (ag_cons (by first | exact ag_rd rfl rfl rfl (rd_move rfl rfl) rfl) (ag_cons (by first | exact ag_rd rfl rfl rfl (rd_move rfl rfl) rfl) (ag_cons (by first | exact ag_rd rfl rfl rfl (rd_move rfl rfl) rfl) (ag_cons (by first | exact ag_rd rfl rfl rfl (rd_move rfl rfl) rfl) (ag_none)))))), ?_⟩
          refine WQ ?_
          rw [← hsd]
          generalize stepA V Fs least most off z = T at hOL hTz ⊢
          generalize hzz : min (hiZ V Fs) (z + T) = z2 at hOL ⊢
          refine WR ?_
          refine al_ef rfl (Zapp (KA (t := 22) rfl)) ?_
          rintro _ _ ⟨_, cc, hcc, rfl, rfl⟩
          refine WE ?_
          refine WA ?_
          refine aw_if rfl (fun hb => ?_) (fun hb => ?_)
          · refine WA ?_
            have : 1000 < L.length := by rw [← hOL]; simp; omega
            exact aret_2 [] _ rfl rfl rfl rfl rfl (by decide) (ZNK rfl) (fun _ => .nil) ⟨_, by rw [e0, if_neg (by simp), e5, if_pos this]; rfl, rfl⟩
          · refine ZZ ?_
            refine wk_of [some 0, some 1] (fun _ => [(1, .c (I least)), (2, .c (I most)), (12, .p 0 0 0), (13, .c (.r q ((slL V Fs off most).map Slnt.row))), (14, .o 1 0 (O ++ [z2]).length cc), (15, .c (I z2))]) (fun _ => _) (by decide) (ZNL hE) ZCF ZCH (fun _ => ?_)
            exact ⟨(hiZ V Fs - z2).toNat, by omega, z2, cc, O ++ [z2], rfl, by omega, by omega, by simp; omega, by rw [List.append_assoc]; exact hOL, rfl, by simp [zR]⟩
        rw [tops_end (by omega), List.append_nil] at hOL
        subst hOL
        refine ZZ ?_
        refine WA ?_
        exact aret_f2 [] _ rfl rfl rfl rfl rfl rfl (by rw [List.drop_zero, List.take_of_length_le (by simp)]) (by simp) rfl (by decide) (ZNK rfl) (fun _ => .nil) (fun q => ⟨q, by rw [e0, if_neg (by simp), e5, if_neg (by omega)], rfl⟩)
end Go.Proofs.YthanangkmjjbaaaGreatDoor

/- Faults of what Adaptive is asked, by value. -/
-- NEWM
namespace Go.Proofs.YthanangkmjjbaaaGreatDoor
open Go Go.RowKit
set_option maxRecDepth 100000
theorem fst0_drop {l : List Int} {k : Nat} {n : Int} (h : l[k]? = some n) : fst0 (l.drop k) = if n = 0 then fst0 (l.drop (k + 1)) else n := by
  obtain ⟨h1, h2⟩ := List.getElem?_eq_some_iff.1 h
  rw [List.drop_eq_getElem_cons h1, h2]; rfl
end Go.Proofs.YthanangkmjjbaaaGreatDoor

/- cmp.Or of numbers; the order of sides, by value. -/
-- NEWM
namespace Go.Proofs.YthanangkmjjbaaaGreatDoor
open Go Go.RowKit
set_option maxRecDepth 100000
theorem orI_v (l : List Int) (v : Value) (hl : l.length ≤ 1000000) : ACalls Tryz.prog 89 [.c (.r v (zR l))] [] fun u H => u = .c (I (fst0 l)) ∧ H = [] := by
  have e1 : (zR l).length = l.length := by simp
  refine acalls_of (N := 18) Tryz.func89 rfl rfl (by simp) fun E hE => ?_
  refine WA ?_
  refine WA ?_
  refine WA ?_
  refine aw_loopw (fun m F H => ∃ (k : Nat), m + k = l.length ∧ fst0 (l.drop k) = fst0 l ∧ F = [(3, .c (I 0)), (6, .c (.r v (zR l))), (7, .c (I (zR l).length)), (8, .c (I k))] ∧ H = []) ?_ ?_
  · refine wk_of [] (fun _ => [(3, .c (I 0)), (6, .c (.r v (zR l))), (7, .c (I (zR l).length)), (8, .c (I (0 : Nat)))]) (fun _ => _) (by decide) (ZNL hE) ZCF (fun _ => .nil) (fun _ => ?_)
    exact ⟨l.length, 0, by omega, rfl, rfl, rfl⟩
  rintro m F H ⟨k, hk, hf, rfl, rfl⟩
  refine WA ?_
  refine aw_if rfl (fun hlt => ?_) (fun hge => ?_)
  · obtain ⟨n, hn⟩ : ∃ n, l[k]? = some n := ⟨_, List.getElem?_eq_getElem (by omega)⟩
    have hrow : (zR l)[k]? = some [I n] := by rw [List.getElem?_map, hn]; rfl
    have hd := fst0_drop hn
    refine WA ?_
    refine WA ?_
    refine aw_if rfl (fun hv => ?_) (fun hv => ?_)
    · refine WA ?_
      exact aret_1 [] _ rfl rfl rfl (by decide) (ZNK rfl) (fun _ => .nil) ⟨by rw [← hf, hd, if_neg hv], rfl⟩
    · refine WA ?_
      refine wk_of [] (fun _ => [(3, .c (I 0)), (6, .c (.r v (zR l))), (7, .c (I (zR l).length)), (8, .c (I (k + 1 : Nat)))]) (fun _ => _) (by decide) (ZNL hE) ZCF (fun _ => .nil) (fun _ => ?_)
      exact ⟨m - 1, by omega, k + 1, by omega, by rw [← hf, hd, if_pos (by omega)], rfl, rfl⟩
  refine WA ?_
  exact aret_1 [] _ rfl rfl rfl (by decide) (ZNK rfl) (fun _ => .nil) ⟨by rw [← hf, List.drop_eq_nil_of_le (by omega)]; rfl, rfl⟩
/-- The order of sides. -/
def sidC (a b : Sid2) : Int := fst0 [cmpI a.f b.f, cmpI a.t b.t]
theorem sidC_v (a b : Sid2) : ACalls Tryz.prog 88 [.a (a.row.map .c), .a (b.row.map .c)] [] fun u H => u = .c (I (sidC a b)) ∧ H = [] := by
  obtain ⟨af, at_⟩ := a
  obtain ⟨bf, bt⟩ := b
  refine acalls_of (N := 17) Tryz.func88 rfl rfl (by simp) fun E hE => ?_
  refine WA ?_
  refine ZZ ?_
  refine aw_regionT [(0, none), (1, none), (2, none), (3, none), (5, none), (6, none), (7, none), (8, none), (4, some [5, 6, 7, 8]), (9, some []), (10, some []), (11, some []), (12, none)] hMixed (by kernel_rfl) ?_
  refine WP ?_
  refine at_ef rfl rfl (ef_call0 false (fun _ => cmpI_v _ _) rfl .fn rfl (by decide) (by kernel_rfl) rfl (fun _g => .cons (.c rfl) (.cons (.c rfl) .nil)) (by simp)) ?_
  rintro _ _ ⟨_, _, _, ⟨rfl, rfl⟩, hF, hH⟩
  (try simp only [nsl, Nat.reduceAdd, Nat.reduceLT, Nat.reduceSub] at hF); (try simp only [nsl, Nat.reduceAdd, Nat.reduceLT, Nat.reduceSub] at hH); subst hF; subst hH
  refine ⟨ag_cons (by first | exact ag_rd rfl rfl rfl (ZX (KF (t := 54) (f := 1) rfl rfl)) rfl) (ag_cons (by first | exact ag_rd rfl rfl rfl (ZL (KK (t := 3) rfl)) rfl) (ag_cons (by first | exact ag_rd rfl rfl rfl (ZX (KF (t := 54) (f := 1) rfl rfl)) rfl) (ag_cons (by first | exact ag_rd rfl rfl rfl (ZL (KK (t := 3) rfl)) rfl) (ag_none)))), ?_⟩
  refine at_ef rfl rfl (ef_call0 false (fun _ => cmpI_v _ _) rfl .fn rfl (by decide) (by kernel_rfl) rfl (fun _g => .cons (.c rfl) (.cons (.c rfl) .nil)) (by simp)) ?_
  rintro _ _ ⟨_, _, _, ⟨rfl, rfl⟩, hF, hH⟩
  (try simp only [nsl, Nat.reduceAdd, Nat.reduceLT, Nat.reduceSub] at hF); (try simp only [nsl, Nat.reduceAdd, Nat.reduceLT, Nat.reduceSub] at hH); subst hF; subst hH
  refine ⟨ag_none, ?_⟩
  refine WP ?_
  refine at_ef rfl rfl (ef_call0 true (fun g => orI_v [cmpI af bf, cmpI at_ bt] (g (.o 2 0 2 2)) (by simp)) rfl .fn rfl (by decide) (by kernel_rfl) rfl (fun _ => .cons (.frz rfl rfl rfl rfl rfl) .nil) (fun _ _ _ _ ⟨hu, hH⟩ => by rw [hu, hH]; exact ⟨.c (.inl trivial), by simp⟩)) ?_
  rintro _ _ ⟨_, _, _, ⟨rfl, rfl⟩, hF, hH⟩
  (try simp only [nsl, Nat.reduceAdd, Nat.reduceLT, Nat.reduceSub] at hF); (try simp only [nsl, Nat.reduceAdd, Nat.reduceLT, Nat.reduceSub] at hH); subst hF; subst hH
  refine ⟨ag_none, ?_⟩
  refine WQ ?_
  all_goals exact aret_1 [] _ rfl rfl rfl (by decide) (ZNK rfl) (fun _ => .nil) ⟨rfl, rfl⟩
end Go.Proofs.YthanangkmjjbaaaGreatDoor

/- slices.SortFunc of sides: some order of the same. -/
namespace Go.Proofs.YthanangkmjjbaaaGreatDoor
open Go Go.RowKit
set_option maxRecDepth 100000
def sidOf : List CV → Sid2
  | [.s (.int _ a), .s (.int _ b)] => ⟨a, b⟩
  | _ => ⟨0, 0⟩
theorem sidOf_row (s : Sid2) : sidOf s.row = s := rfl
theorem fst0_two (a b : Int) : fst0 [a, b] = if a = 0 then b else a := by
  simp only [fst0]; split <;> simp_all
theorem sidC_lt (a b : Sid2) : sidC a b < 0 ↔ (a.f < b.f ∨ (a.f = b.f ∧ a.t < b.t)) := by
  unfold sidC
  rw [fst0_two]
  unfold cmpI
  split <;> split <;> omega
theorem sortS_v (l : List Sid2) (c : Nat) (hl : l.length ≤ 1000000) : ACallsX true Tryz.prog 59 [.o 0 0 l.length c, .f (.func 88) []] [.arr 54 2 c (sR l)] fun u H => ∃ l' : List Sid2, l'.Perm l ∧ u = .t [] ∧ H = [.arr 54 2 c (sR l')] := by
  have h := acalls_sort sortSideL (k := 2) (fun w => Tryz.isAgg54 w) (fun w => Tryz.sizeOf54 w) (fun x => ∃ s : Sid2, x = s.row) (fun x y => sidC (sidOf x) (sidOf y)) (g := 88) (by kernel_rfl)
    (by rintro _ ⟨s, rfl⟩; rw [sidC_lt]; omega)
    (by rintro _ _ _ ⟨a, rfl⟩ ⟨b, rfl⟩ ⟨c, rfl⟩; simp only [sidC_lt, sidOf_row]; omega)
    (by rintro _ _ _ ⟨a, rfl⟩ ⟨b, rfl⟩ ⟨c, rfl⟩; simp only [sidC_lt, sidOf_row]; omega)
    (by rintro _ _ ⟨a, rfl⟩ ⟨b, rfl⟩; exact sidC_v a b)
    (sR l) (by intro r hr; obtain ⟨s, _, rfl⟩ := List.mem_map.1 hr; exact ⟨s, rfl⟩) (by simp; omega) (e := 54) (cap := c) (n := l.length) (c := c) (pn := true) (by simp)
  refine ACallsX.mono h fun u H => ?_
  rintro ⟨rows', rfl, rfl, hp, _⟩
  refine ⟨rows'.map sidOf, ?_, rfl, ?_⟩
  · have h2 := hp.map sidOf
    rwa [List.map_map, show (sidOf ∘ Sid2.row) = id from funext fun s => rfl, List.map_id] at h2
  · congr 2
    rw [sR, List.map_map]
    refine (List.map_id _).symm.trans (List.map_congr_left fun r hr => ?_)
    obtain ⟨s, _, rfl⟩ := List.mem_map.1 (hp.subset hr)
    rfl
end Go.Proofs.YthanangkmjjbaaaGreatDoor

/- Faults of planes, orders of sides, planes of the stream, by value. -/
-- NEWM
namespace Go.Proofs.YthanangkmjjbaaaGreatDoor
open Go Go.RowKit
set_option maxRecDepth 100000
theorem sfar_v (n : Int) : ACalls Tryz.prog 104 [.c (I n)] [] fun u H => u = .c (B (farI n)) ∧ H = [] := by
  refine acalls_of (N := 5) Tryz.func104 rfl rfl (by simp) fun E hE => ?_
  repeat' (first
    | (with_reducible refine aw_seq ?_) | (with_reducible refine aseq_n ?_) | (with_reducible refine aseq_r ?_) | (with_reducible refine ablk_n ?_) | (with_reducible refine ablk_r ?_) | (with_reducible refine ablk_e ?_) | (with_reducible refine ablk_o rfl ?_) | (with_reducible refine aseq_e ?_) | (with_reducible refine aw_skip ?_) | (with_reducible refine aw_block ?_) | (with_reducible refine aw_ret ?_) | (with_reducible refine aw_exit ?_)
    | refine aw_cond_t rfl ?_ | refine aw_cond_f rfl ?_ | refine aw_if_t rfl (by assumption) ?_ | refine aw_if_f rfl (by assumption) ?_ | refine aw_if rfl (fun _ => ?_) (fun _ => ?_) | refine aw_cond rfl (fun _ => ?_) (fun _ => ?_)
    | (refine aw_region (id := 1) ?_
       refine WO ?_
       refine al_ef rfl (ef_call0 false (fun _ => outside_v _ _ _) rfl .fn rfl (by decide) (by kernel_rfl) rfl (fun _g => .cons (.c rfl) (.cons (.c rfl) (.cons (.c rfl) .nil))) (by simp)) ?_
       rintro _ _ ⟨_, _, _, ⟨rfl, rfl⟩, hF, hH⟩
       (try simp only [nsl, Nat.reduceAdd, Nat.reduceLT, Nat.reduceSub] at hF); (try simp only [nsl, Nat.reduceAdd, Nat.reduceLT, Nat.reduceSub] at hH); subst hF; subst hH
       refine WE ?_)
    | (refine aw_region ?_; refine WE ?_))
  refine aret_1 [] _ rfl rfl rfl (by decide) (ZNK rfl) (fun _ => .nil) ⟨rfl, rfl⟩
theorem anyG_drop {α : Type} (p : α → Bool) {l : List α} {k : Nat} {n : α} (h : l[k]? = some n) : (l.drop k).any p = (p n || (l.drop (k + 1)).any p) := by
  obtain ⟨h1, h2⟩ := List.getElem?_eq_some_iff.1 h
  rw [List.drop_eq_getElem_cons h1, h2, List.any_cons]
theorem idxFar_v (l : List Int) (v : Value) (hl : l.length ≤ 1000000) : ACalls Tryz.prog 148 [.c (.r v (zR l)), .f (.func 104) []] [] fun u H => ∃ r : Int, u = .c (I r) ∧ H = [] ∧ (0 ≤ r ↔ l.any farI = true) := by
  have e1 : (zR l).length = l.length := by simp
  refine acalls_of (N := 19) Tryz.func148 rfl rfl (by simp) fun E hE => ?_
  refine WA ?_
  refine WA ?_
  refine aw_loopw (fun m F H => ∃ (k : Nat), m + k = l.length ∧ (l.drop k).any farI = l.any farI ∧ F = [(0, .c (.r v (zR l))), (1, .f (.func 104) []), (7, .c (I (zR l).length)), (8, .c (I k))] ∧ H = []) ?_ ?_
  · refine wk_of [] (fun _ => [(0, .c (.r v (zR l))), (1, .f (.func 104) []), (7, .c (I (zR l).length)), (8, .c (I (0 : Nat)))]) (fun _ => _) (by decide) (ZNL hE) ZCF (fun _ => .nil) (fun _ => ?_)
    exact ⟨l.length, 0, by omega, rfl, rfl, rfl⟩
  rintro m F H ⟨k, hk, hf, rfl, rfl⟩
  refine WA ?_
  refine aw_if rfl (fun hlt => ?_) (fun hge => ?_)
  · obtain ⟨n, hn⟩ : ∃ n, l[k]? = some n := ⟨_, List.getElem?_eq_getElem (by omega)⟩
    have hrow : (zR l)[k]? = some [I n] := by rw [List.getElem?_map, hn]; rfl
    have hd := anyG_drop farI hn
    refine WA ?_
    refine WR ?_
    refine al_ef rfl (ef_call0 false (fun _ => sfar_v _) rfl (.clo rfl) rfl (by decide) (by kernel_rfl) rfl (fun _g => .cons (.c rfl) .nil) (by simp)) ?_
    rintro _ _ ⟨_, _, _, ⟨rfl, rfl⟩, hF, hH⟩
    (try simp only [nsl, Nat.reduceAdd, Nat.reduceLT, Nat.reduceSub] at hF); (try simp only [nsl, Nat.reduceAdd, Nat.reduceLT, Nat.reduceSub] at hH); subst hF; subst hH
    refine WE ?_
    refine aw_cond rfl (fun hv => ?_) (fun hv => ?_)
    · refine WA ?_
      refine aret_1 [] _ rfl rfl rfl (by decide) (ZNK rfl) (fun _ => .nil) ⟨_, rfl, rfl, ?_⟩
      rw [← hf, hd, hv]; simp
    · refine ZZ ?_
      refine WA ?_
      refine wk_of [] (fun _ => [(0, .c (.r v (zR l))), (1, .f (.func 104) []), (7, .c (I (zR l).length)), (8, .c (I (k + 1 : Nat)))]) (fun _ => _) (by decide) (ZNL hE) ZCF (fun _ => .nil) (fun _ => ?_)
      exact ⟨m - 1, by omega, k + 1, by omega, by rw [← hf, hd, hv, Bool.false_or], rfl, rfl⟩
  refine WA ?_
  refine aret_1 [] _ rfl rfl rfl (by decide) (ZNK rfl) (fun _ => .nil) ⟨_, rfl, rfl, ?_⟩
  rw [← hf, List.drop_eq_nil_of_le (by omega)]; simp
theorem hasFar_v (l : List Int) (v : Value) (hl : l.length ≤ 1000000) : ACalls Tryz.prog 103 [.c (.r v (zR l)), .f (.func 104) []] [] fun u H => u = .c (B (l.any farI)) ∧ H = [] := by
  refine acalls_of (N := 9) Tryz.func103 rfl rfl (by simp) fun E hE => ?_
  refine WA ?_
  refine WR ?_
  refine al_ef rfl (ef_call0 false (fun _ => idxFar_v l v hl) rfl .fn rfl (by decide) (by kernel_rfl) rfl (fun _g => .cons (.c rfl) (.cons (.fL .nil) .nil)) (by simp)) ?_
  rintro _ _ ⟨_, _, _, ⟨r, rfl, rfl, hr⟩, hF, hH⟩
  (try simp only [nsl, Nat.reduceAdd, Nat.reduceLT, Nat.reduceSub] at hF); (try simp only [nsl, Nat.reduceAdd, Nat.reduceLT, Nat.reduceSub] at hH); subst hF; subst hH
  refine WE ?_
  refine aret_1 [] _ rfl rfl rfl (by decide) (ZNK rfl) (fun _ => .nil) ⟨congrArg (fun z => AV.c (B z)) ?_, rfl⟩
  cases h : l.any farI
  · rw [h] at hr; simp at hr ⊢; omega
  · rw [h] at hr; simp at hr ⊢; omega
/-- What is wrong with planes. -/
def plnF (l : List Int) : Int := if l.any farI = true then 1 else 0
def pltF (V : List Vec3) (Fs : List Fac3) (l : List Int) : Int := if mshF V Fs ≠ 0 then mshF V Fs else plnF l
theorem sfault_v (v w q : Value) (V : List Vec3) (Fs : List Fac3) (l : List Int) (hVl : V.length ≤ 1000000) (hFl : Fs.length ≤ 1000000) (hl : l.length ≤ 1000000) : ACalls Tryz.prog 52 [mshA v w V Fs, .c (.r q (zR l))] [] fun u H => u = .c (I (pltF V Fs l)) ∧ H = [] := by
  refine acalls_of (N := 13) Tryz.func52 rfl rfl (by simp) fun E hE => ?_
  refine WA ?_
  refine WR ?_
  refine al_ef rfl (ef_call0 false (fun _ => checkmesh_v v w V Fs (by omega) (by omega)) rfl .fn rfl (by decide) (by kernel_rfl) rfl (fun _ => C0 rfl) (by simp)) ?_
  rintro _ _ ⟨_, _, _, ⟨rfl, rfl⟩, hF, hH⟩
  (try simp only [nsl, Nat.reduceAdd, Nat.reduceLT, Nat.reduceSub] at hF); (try simp only [nsl, Nat.reduceAdd, Nat.reduceLT, Nat.reduceSub] at hH); subst hF; subst hH
  refine WE ?_
  refine WA ?_
  refine aw_if rfl (fun h0 => ?_) (fun h0 => ?_)
  · refine WA ?_
    exact aret_1 [] _ rfl rfl rfl (by decide) (ZNK rfl) (fun _ => .nil) ⟨by rw [pltF, if_pos h0], rfl⟩
  · refine ZZ ?_
    refine WR ?_
    refine al_ef rfl (ef_call0 false (fun _ => hasFar_v l q hl) rfl .fn rfl (by decide) (by kernel_rfl) rfl (fun _g => .cons (.c rfl) (.cons (.fL .nil) .nil)) (by simp)) ?_
    rintro _ _ ⟨_, _, _, ⟨rfl, rfl⟩, hF, hH⟩
    (try simp only [nsl, Nat.reduceAdd, Nat.reduceLT, Nat.reduceSub] at hF); (try simp only [nsl, Nat.reduceAdd, Nat.reduceLT, Nat.reduceSub] at hH); subst hF; subst hH
    refine WE ?_
    refine aw_cond rfl (fun hb => ?_) (fun hb => ?_)
    · refine WA ?_
      exact aret_1 [] _ rfl rfl rfl (by decide) (ZNK rfl) (fun _ => .nil) ⟨by rw [pltF, if_neg h0, plnF, if_pos hb], rfl⟩
    · refine WA ?_
      exact aret_1 [] _ rfl rfl rfl (by decide) (ZNK rfl) (fun _ => .nil) ⟨by rw [pltF, if_neg h0, plnF, if_neg (by rw [hb]; simp)], rfl⟩
theorem planef_v (l : List Int) (v : Value) (hl : l.length ≤ 1000000) : ACalls Tryz.prog 18 [.c (.r v (zR l))] [] fun u H => u = .c (I (plnF l)) ∧ H = [] := by
  have e1 : (zR l).length = l.length := by simp
  refine acalls_of (N := 18) Tryz.func18 rfl rfl (by simp) fun E hE => ?_
  refine WA ?_
  refine WA ?_
  refine aw_loopw (fun m F H => ∃ (k : Nat), m + k = l.length ∧ (l.drop k).any farI = l.any farI ∧ F = [(6, .c (.r v (zR l))), (7, .c (I (zR l).length)), (8, .c (I k))] ∧ H = []) ?_ ?_
  · refine wk_of [] (fun _ => [(6, .c (.r v (zR l))), (7, .c (I (zR l).length)), (8, .c (I (0 : Nat)))]) (fun _ => _) (by decide) (ZNL hE) ZCF (fun _ => .nil) (fun _ => ?_)
    exact ⟨l.length, 0, by omega, rfl, rfl, rfl⟩
  rintro m F H ⟨k, hk, hf, rfl, rfl⟩
  refine WA ?_
  refine aw_if rfl (fun hlt => ?_) (fun hge => ?_)
  · obtain ⟨n, hn⟩ : ∃ n, l[k]? = some n := ⟨_, List.getElem?_eq_getElem (by omega)⟩
    have hrow : (zR l)[k]? = some [I n] := by rw [List.getElem?_map, hn]; rfl
    have hd := anyG_drop farI hn
    have hsp : spnF n (-100000) 100000 = if farI n = true then 1 else 0 := rfl
    refine WA ?_
    refine WR ?_
    refine al_ef rfl (ef_call0 false (fun _ => span_v _ _ _) rfl .fn rfl (by decide) (by kernel_rfl) rfl (fun _g => .cons (.c rfl) (.cons (.c rfl) (.cons (.c rfl) .nil))) (by simp)) ?_
    rintro _ _ ⟨_, _, _, ⟨rfl, rfl⟩, hF, hH⟩
    (try simp only [nsl, Nat.reduceAdd, Nat.reduceLT, Nat.reduceSub] at hF); (try simp only [nsl, Nat.reduceAdd, Nat.reduceLT, Nat.reduceSub] at hH); subst hF; subst hH
    refine WE ?_
    refine WA ?_
    refine aw_if rfl (fun hv => ?_) (fun hv => ?_)
    · have hfn : farI n = true := by
        cases h : farI n with
        | true => rfl
        | false => rw [h] at hsp; exact absurd hsp hv
      refine WA ?_
      exact aret_1 [] _ rfl rfl rfl (by decide) (ZNK rfl) (fun _ => .nil) ⟨by rw [hsp, if_pos hfn, plnF, ← hf, hd, hfn, Bool.true_or, if_pos rfl], rfl⟩
    · have hfn : farI n = false := by
        cases h : farI n with
        | false => rfl
        | true => rw [h] at hsp; exact absurd (by rw [hsp]; decide) hv
      refine WA ?_
      refine wk_of [] (fun _ => [(6, .c (.r v (zR l))), (7, .c (I (zR l).length)), (8, .c (I (k + 1 : Nat)))]) (fun _ => _) (by decide) (ZNL hE) ZCF (fun _ => .nil) (fun _ => ?_)
      exact ⟨m - 1, by omega, k + 1, by omega, by rw [← hf, hd, hfn, Bool.false_or], rfl, rfl⟩
  refine WA ?_
  exact aret_1 [] _ rfl rfl rfl (by decide) (ZNK rfl) (fun _ => .nil) ⟨by rw [plnF, ← hf, List.drop_eq_nil_of_le (by omega)]; rfl, rfl⟩
/-- The program's order of sides. -/
theorem cmpS_v (a b : Sid2) : ACalls Tryz.prog 60 [.a (a.row.map .c), .a (b.row.map .c)] [] fun u H => u = .c (I (sidC a b)) ∧ H = [] := by
  obtain ⟨af, at_⟩ := a
  obtain ⟨bf, bt⟩ := b
  refine acalls_of (N := 17) Tryz.func60 rfl rfl (by simp) fun E hE => ?_
  refine WA ?_
  refine ZZ ?_
  refine aw_regionT [(0, none), (1, none), (2, none), (3, none), (5, none), (6, none), (7, none), (8, none), (4, some [5, 6, 7, 8]), (9, some []), (10, some []), (11, some []), (12, none)] hMixed (by kernel_rfl) ?_
  refine WP ?_
  refine at_ef rfl rfl (ef_call0 false (fun _ => cmpI_v _ _) rfl .fn rfl (by decide) (by kernel_rfl) rfl (fun _g => .cons (.c rfl) (.cons (.c rfl) .nil)) (by simp)) ?_
  rintro _ _ ⟨_, _, _, ⟨rfl, rfl⟩, hF, hH⟩
  (try simp only [nsl, Nat.reduceAdd, Nat.reduceLT, Nat.reduceSub] at hF); (try simp only [nsl, Nat.reduceAdd, Nat.reduceLT, Nat.reduceSub] at hH); subst hF; subst hH
  refine ⟨ag_cons (by first | exact ag_rd rfl rfl rfl (ZX (KF (t := 54) (f := 1) rfl rfl)) rfl) (ag_cons (by first | exact ag_rd rfl rfl rfl (ZL (KK (t := 3) rfl)) rfl) (ag_cons (by first | exact ag_rd rfl rfl rfl (ZX (KF (t := 54) (f := 1) rfl rfl)) rfl) (ag_cons (by first | exact ag_rd rfl rfl rfl (ZL (KK (t := 3) rfl)) rfl) (ag_none)))), ?_⟩
  refine at_ef rfl rfl (ef_call0 false (fun _ => cmpI_v _ _) rfl .fn rfl (by decide) (by kernel_rfl) rfl (fun _g => .cons (.c rfl) (.cons (.c rfl) .nil)) (by simp)) ?_
  rintro _ _ ⟨_, _, _, ⟨rfl, rfl⟩, hF, hH⟩
  (try simp only [nsl, Nat.reduceAdd, Nat.reduceLT, Nat.reduceSub] at hF); (try simp only [nsl, Nat.reduceAdd, Nat.reduceLT, Nat.reduceSub] at hH); subst hF; subst hH
  refine ⟨ag_none, ?_⟩
  refine WP ?_
  refine at_ef rfl rfl (ef_call0 true (fun g => orI_v [cmpI af bf, cmpI at_ bt] (g (.o 2 0 2 2)) (by simp)) rfl .fn rfl (by decide) (by kernel_rfl) rfl (fun _ => .cons (.frz rfl rfl rfl rfl rfl) .nil) (fun _ _ _ _ ⟨hu, hH⟩ => by rw [hu, hH]; exact ⟨.c (.inl trivial), by simp⟩)) ?_
  rintro _ _ ⟨_, _, _, ⟨rfl, rfl⟩, hF, hH⟩
  (try simp only [nsl, Nat.reduceAdd, Nat.reduceLT, Nat.reduceSub] at hF); (try simp only [nsl, Nat.reduceAdd, Nat.reduceLT, Nat.reduceSub] at hH); subst hF; subst hH
  refine ⟨ag_none, ?_⟩
  refine WQ ?_
  all_goals exact aret_1 [] _ rfl rfl rfl (by decide) (ZNK rfl) (fun _ => .nil) ⟨rfl, rfl⟩
theorem cmpI_z (m n : Int) : cmpI m n = 0 ↔ m = n := by unfold cmpI; split <;> (try split) <;> omega
end Go.Proofs.YthanangkmjjbaaaGreatDoor
