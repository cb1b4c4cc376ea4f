/- The library's contract of sorting lies at this program for segments and contours. -/
import Derived.Test.YthanangkmjjbaaaGreatDoorQav
import Derived.Test.YthanangkmjjbaaaGreatDoorQbb
import Derived.Test.YthanangkmjjbaaaGreatDoorQbe
import Derived.Test.YthanangkmjjbaaaGreatDoorQbg
import Derived.Test.YthanangkmjjbaaaGreatDoorQbc
set_option linter.unusedSimpArgs false
set_option linter.unusedVariables false
/- slices.Compact of sides, by value. -/
-- NEWM
namespace Go.Proofs.YthanangkmjjbaaaGreatDoor
open Go Go.RowKit
set_option maxRecDepth 100000
set_option maxHeartbeats 4000000 in
theorem compactS_v (l : List Sid2) (c : Nat) (hl : l.length ≤ 1000000) (hlc : l.length ≤ c) : ACalls Tryz.prog 61 [.o 0 0 l.length c] [.arr 54 2 c (sR l)] fun u H => u = .o 0 0 (compG l).length c ∧ H = [.arr 54 2 c (sR (compG l))] := by
  have e1 : (sR l).length = l.length := by simp
  refine acalls_of (N := 61) Tryz.func61 rfl rfl (by simp) fun E hE => ?_
  refine WA ?_
  refine WA ?_
  refine aw_if rfl (fun hs => ?_) (fun hs => ?_)
  · have hc : compG l = l := by
      match l, hs with
      | [], _ => rfl
      | [x], _ => rfl
      | _ :: _ :: _, h => simp at h; omega
    refine WA ?_
    exact aret_o [some 0] (fun _ => [.arr 54 2 c (sR l)]) rfl rfl rfl rfl rfl (by decide) (ZNK rfl) ZCH (fun _ => ⟨by rw [hc], by rw [hc]⟩)
  refine ZZ ?_
  refine WA ?_
  refine aw_loopw (fun m F H => ∃ (k : Nat), m + k = l.length ∧ 1 ≤ k ∧ compG (l.take k) = l.take k ∧ F = [(0, .o 0 0 l.length c), (3, .c (I k))] ∧ H = [.arr 54 2 c (sR l)]) ?_ ?_
  · refine wk_of [some 0] (fun _ => [(0, .o 0 0 l.length c), (3, .c (I (1 : Nat)))]) (fun _ => [.arr 54 2 c (sR l)]) (by decide) (ZNL hE) ZCF ZCH (fun _ => ?_)
    refine ⟨l.length - 1, 1, by omega, by omega, ?_, rfl, rfl⟩
    match l, hs with
    | [], h => simp at h
    | x :: l, _ => rfl
  rintro m F H ⟨k, hk, hk1, hcp, rfl, rfl⟩
  refine WA ?_
  refine aw_if rfl (fun hlt => ?_) (fun hge => ?_)
  · obtain ⟨k, rfl⟩ : ∃ q, k = q + 1 := ⟨k - 1, by omega⟩
    obtain ⟨x, hx⟩ : ∃ x, l[k + 1]? = some x := ⟨_, List.getElem?_eq_getElem (by omega)⟩
    obtain ⟨y, hy⟩ : ∃ y, l[k]? = some y := ⟨_, List.getElem?_eq_getElem (by omega)⟩
    have hst := compG_step hx hy
    obtain ⟨xf, xt⟩ := x
    obtain ⟨yf, yt⟩ := y
    have hrx : (sR l)[0 + (k + 1)]? = some [I xf, I xt] := by rw [Nat.zero_add, List.getElem?_map, hx]; rfl
    have hry : (sR l)[0 + k]? = some [I yf, I yt] := by rw [Nat.zero_add, List.getElem?_map, hy]; rfl
    refine ZZ ?_
    refine aw_regionT [(0, none), (1, none), (2, none), (3, none), (4, none), (5, none), (6, none), (7, none), (8, none), (9, none)] hMixed (by kernel_rfl) ?_
    iterate 7 refine WX2 ?_
    refine ZT rfl (rd_index (i := k) rfl (KE (t := 64) rfl) rfl rfl rfl (by omega) (by omega)) ?_
    refine WQ ?_
    refine aw_if rfl (fun heq => ?_) (fun hne => ?_)
    · generalize hK : k + 1 = K at *
      refine ZR ?_
      iterate 2 refine WX1 ?_
      refine ZA (rd_slice (l := K) (h := l.length) rfl (KE (t := 64) rfl) rfl rfl (.inr ⟨_, _, _, rfl, rfl, rfl⟩) (.inl ⟨rfl, rfl⟩) (by omega) (by omega) (by omega)) ?_
      refine WE ?_
      refine WA ?_
      rw [if_pos ((sid_eq _ _).2 ⟨heq.1.symm, heq.2.symm⟩)] at hst
      refine aw_loopw (fun m F H => ∃ (d i : Nat) (r : List Sid2), m + d = l.length - K ∧ 1 ≤ d ∧ i + 1 ≤ K + d ∧ r.length = l.length ∧ r.take i = compG (l.take (K + d)) ∧ (compG (l.take (K + d))).length = i ∧ (∀ q, K + d ≤ q + 1 → r[q]? = l[q]?) ∧ F = [(0, .o 0 0 l.length c), (3, .c (I i)), (4, .o 0 (0 + K) (l.length - K) (c - K)), (5, .c (I d))] ∧ H = [.arr 54 2 c (sR r)]) ?_ ?_
      · refine wk_of [some 0] (fun _ => [(0, .o 0 0 l.length c), (3, .c (I K)), (4, .o 0 (0 + K) (l.length - K) (c - K)), (5, .c (I (1 : Nat)))]) (fun _ => [.arr 54 2 c (sR l)]) (by decide) (ZNL hE) ZCF ZCH (fun _ => ?_)
        have hst' : compG (l.take (K + 1)) = l.take K := by rw [show K + 1 = k + 2 by omega, hst, hcp]
        exact ⟨l.length - K - 1, 1, K, l, by omega, by omega, by omega, rfl, by rw [hst'], by rw [hst', List.length_take]; omega, fun q _ => rfl, rfl, rfl⟩
      rintro m2 F H ⟨d, i, r, hm, hd, hi, hr, hti, htl, hq, rfl, rfl⟩
      refine WA ?_
      refine aw_if rfl (fun hlt2 => ?_) (fun hge2 => ?_)
      · obtain ⟨D, rfl⟩ : ∃ q, d = q + 1 := ⟨d - 1, by omega⟩
        obtain ⟨p, hp⟩ : ∃ p, l[K + D + 1]? = some p := ⟨_, List.getElem?_eq_getElem (by omega)⟩
        obtain ⟨o, ho⟩ : ∃ o, l[K + D]? = some o := ⟨_, List.getElem?_eq_getElem (by omega)⟩
        have hst2 := compG_step hp ho
        rw [show K + D + 2 = K + (D + 1 + 1) by omega, show K + D + 1 = K + (D + 1) by omega] at hst2
        obtain ⟨pf, pt⟩ := p
        obtain ⟨of_, ot⟩ := o
        have h7 : (sR r)[0 + K + (D + 1)]? = some [I pf, I pt] := by rw [Nat.zero_add, List.getElem?_map, show K + (D + 1) = K + D + 1 by omega, hq _ (by omega), hp]; rfl
        have h8 : (sR r)[0 + K + D]? = some [I of_, I ot] := by rw [Nat.zero_add, List.getElem?_map, hq _ (by omega), ho]; rfl
        obtain ⟨u0, hu0⟩ : ∃ u : Sid2, (sR r)[0 + i]? = some [I u.f, I u.t] := ⟨r[i]'(by omega), by rw [Nat.zero_add, List.getElem?_map, List.getElem?_eq_getElem (by omega)]; rfl⟩
        refine ZZ ?_
        refine aw_regionT [(0, none), (1, none), (2, none), (3, none), (4, none), (5, none), (6, none), (7, none), (8, none), (9, none)] hMixed (by kernel_rfl) ?_
        iterate 7 refine WX2 ?_
        refine ZT rfl (rd_index (i := D) rfl (KE (t := 64) rfl) rfl rfl rfl (by omega) (by omega)) ?_
        refine WQ ?_
        refine aw_if rfl (fun hne => ?_) (fun heq2 => ?_)
        · rw [if_neg (fun h => hne ⟨((sid_eq _ _).1 h).1.symm, ((sid_eq _ _).1 h).2.symm⟩)] at hst2
          refine WA ?_
          refine WA ?_
          refine WA ?_
          refine wk_of [some 0] (fun _ => [(0, .o 0 0 l.length c), (3, .c (I (i + 1 : Nat))), (4, .o 0 (0 + K) (l.length - K) (c - K)), (5, .c (I (D + 1 + 1 : Nat)))]) (fun _ => [.arr 54 2 c (sR (r.set i ⟨pf, pt⟩))]) (by decide) (ZNL hE) ZCF ZCH (fun _ => ?_)
          refine ⟨m2 - 1, by omega, D + 1 + 1, i + 1, r.set i ⟨pf, pt⟩, by omega, by omega, by omega, by simpa using hr, ?_, ?_, fun q hqq => ?_, rfl, rfl⟩
          · rw [hst2, ← hti, List.take_add_one, List.getElem?_set_self (by omega), List.take_set_of_le (Nat.le_refl _)]; rfl
          · rw [hst2, List.length_append, htl]; rfl
          · rw [List.getElem?_set_ne (by omega)]; exact hq q (by omega)
        · have heq3 : pf = of_ ∧ pt = ot := Decidable.not_not.1 heq2
          rw [if_pos ((sid_eq _ _).2 ⟨heq3.1.symm, heq3.2.symm⟩)] at hst2
          refine ZZ ?_
          refine WA ?_
          refine wk_of [some 0] (fun _ => [(0, .o 0 0 l.length c), (3, .c (I i)), (4, .o 0 (0 + K) (l.length - K) (c - K)), (5, .c (I (D + 1 + 1 : Nat)))]) (fun _ => [.arr 54 2 c (sR r)]) (by decide) (ZNL hE) ZCF ZCH (fun _ => ?_)
          exact ⟨m2 - 1, by omega, D + 1 + 1, i, r, by omega, by omega, by omega, hr, by rw [hst2]; exact hti, by rw [hst2]; exact htl, fun q hqq => hq q (by omega), rfl, rfl⟩
      refine ZZ ?_
      have hdd : d = l.length - K := by omega
      have hal : l.take (K + d) = l := List.take_of_length_le (by omega)
      rw [hal] at hti htl
      have htr : (sR r).take i = sR (compG l) := by rw [← hti]; simp [sR]
      refine aw_trunc (b := 0) i rfl ?_
      simp only [List.set_cons_zero]
      rw [htr]
      have hcl := compG_len l
      refine ZR ?_
      iterate 2 refine WX1 ?_
      refine ZA (rd_slicex (l := i) (h := l.length) rfl (KE (t := 64) rfl) rfl rfl (.inr ⟨_, _, _, rfl, rfl, rfl⟩) (.inl ⟨rfl, rfl⟩) (by omega) (by omega) (by omega)) ?_
      refine al_ef rfl (ef_clear rfl rfl (KE (t := 64) rfl) (KZ (t := 54) rfl) rfl rfl rfl rfl (by simp; omega)) ?_
      rintro _ _ ⟨rfl, rfl⟩
      refine WE ?_
      refine ZR ?_
      iterate 2 refine WX1 ?_
      refine ZA (rd_slicex (l := 0) (h := i) rfl (KE (t := 64) rfl) rfl rfl (.inl ⟨rfl, rfl⟩) (.inr ⟨_, _, _, rfl, rfl, rfl⟩) (by omega) (by omega) (by omega)) ?_
      refine WE ?_
      exact aret_o (k' := (compG l).length) (c := c) [some 0] (fun _ => [.arr 54 2 c (sR (compG l))]) rfl rfl rfl (by omega) rfl (by decide) (ZNK rfl) ZCH (fun _ => ⟨rfl, rfl⟩)
    · rw [if_neg (fun h => hne ⟨((sid_eq _ _).1 h).1.symm, ((sid_eq _ _).1 h).2.symm⟩)] at hst
      refine ZZ ?_
      refine WA ?_
      refine wk_of [some 0] (fun _ => [(0, .o 0 0 l.length c), (3, .c (I (k + 1 + 1 : Nat)))]) (fun _ => [.arr 54 2 c (sR l)]) (by decide) (ZNL hE) ZCF ZCH (fun _ => ?_)
      refine ⟨m - 1, by omega, k + 1 + 1, by omega, by omega, ?_, rfl, rfl⟩
      rw [hst, hcp, List.take_add_one (i := k + 1), hx]; rfl
  have hkk : k = l.length := by omega
  rw [hkk, List.take_of_length_le (Nat.le_refl _)] at hcp
  refine WA ?_
  exact aret_o [some 0] (fun _ => [.arr 54 2 c (sR l)]) rfl rfl rfl rfl rfl (by decide) (ZNK rfl) ZCH (fun _ => ⟨by rw [hcp], by rw [hcp]⟩)
end Go.Proofs.YthanangkmjjbaaaGreatDoor

/- Cuts: the program's and the reference's, by value; planes of the stream. -/
-- NEWM
namespace Go.Proofs.YthanangkmjjbaaaGreatDoor
open Go Go.RowKit
set_option maxRecDepth 100000
/-- slices.SortFunc of sides, by a function that orders them. -/
theorem sortY_v (g : FuncId) (hg : okFn Tryz.prog g = true) (hc : ∀ a b : Sid2, ACalls Tryz.prog g [.a (a.row.map .c), .a (b.row.map .c)] [] fun u H => u = .c (I (sidC a b)) ∧ H = []) (l : List Sid2) (c : Nat) (hl : l.length ≤ 1000000) :
    ACallsX true Tryz.prog 59 [.o 0 0 l.length c, .f (.func g) []] [.arr 54 2 c (sR l)] fun u H => u = .t [] ∧ H = [.arr 54 2 c (sR (srtS l))] := by
  have h := acalls_sort sortSideL (k := 2) (fun w => Tryz.isAgg54 w) (fun w => Tryz.sizeOf54 w) (fun x => ∃ s : Sid2, x = s.row) (fun x y => sidC (sidOf x) (sidOf y)) (g := g) hg
    (by rintro _ ⟨s, rfl⟩; rw [sidC_lt]; omega)
    (by rintro _ _ _ ⟨a, rfl⟩ ⟨b, rfl⟩ ⟨c, rfl⟩; simp only [sidC_lt, sidOf_row]; omega)
    (by rintro _ _ _ ⟨a, rfl⟩ ⟨b, rfl⟩ ⟨c, rfl⟩; simp only [sidC_lt, sidOf_row]; omega)
    (by rintro _ _ ⟨a, rfl⟩ ⟨b, rfl⟩; exact hc a b)
    (sR l) (by intro r hr; obtain ⟨s, _, rfl⟩ := List.mem_map.1 hr; exact ⟨s, rfl⟩) (by simp; omega) (e := 54) (cap := c) (n := l.length) (c := c) (pn := true) (by simp)
  refine ACallsX.mono h fun u H => ?_
  rintro ⟨rows', rfl, rfl, hp, hs⟩
  have h2 := hp.map sidOf
  rw [sR, List.map_map, show (sidOf ∘ Sid2.row) = id from funext fun s => rfl, List.map_id] at h2
  have h3 : (rows'.map sidOf).Pairwise leS := by
    rw [List.pairwise_map]
    refine hs.imp fun {x y} h => ?_
    rw [sidC_lt] at h
    unfold leS
    omega
  have h4 := srtS_is h2 h3
  refine ⟨rfl, ?_⟩
  congr 2
  rw [← h4, sR, List.map_map]
  refine (List.map_id _).symm.trans (List.map_congr_left fun r hr => ?_)
  obtain ⟨s, _, rfl⟩ := List.mem_map.1 (hp.subset hr)
  rfl
theorem srtS_len (l : List Sid2) : (srtS l).length = l.length := (srtS_perm l).length_eq
theorem sd_take {S : List Seg5} {k : Nat} {g : Seg5} (h : S[k]? = some g) : (S.take (k + 1)).flatMap (fun g => [g.fr, g.to]) = (S.take k).flatMap (fun g => [g.fr, g.to]) ++ [g.fr, g.to] := by
  rw [List.take_add_one, h, List.flatMap_append]; simp
theorem pltF_ok {V : List Vec3} {Fs : List Fac3} {z : Int} (h : pltF V Fs [z] = 0) : MOk V Fs ∧ (-100000 ≤ z ∧ z ≤ 100000) := by
  unfold pltF at h
  split at h
  · contradiction
  · rename_i h1
    refine ⟨mok_of (by omega), ?_⟩
    unfold plnF at h
    split at h
    · cases h
    · rename_i h2
      simp [farI] at h2
      omega
def cutP (V : List Vec3) (Fs : List Fac3) (z : Int) : List Cut6 × Int := if pltF V Fs [z] ≠ 0 then ([], pltF V Fs [z]) else (cutL V Fs z, 0)
set_option maxHeartbeats 8000000 in
theorem cuts_p (v w : Value) (V : List Vec3) (Fs : List Fac3) (z : Int) (hVl : V.length ≤ 1000000) (hFl : Fs.length ≤ 1000000) : ACalls Tryz.prog 17 [mshA v w V Fs, .c (I z)] [] fun u H => ∃ q, u = .t [.c (.r q ((cutP V Fs z).1.map Cut6.row)), .c (I (cutP V Fs z).2)] ∧ H = [] := by
  refine acalls_of (N := 54) Tryz.func17 rfl rfl (by simp) fun E hE => ?_
  refine WA ?_
  refine WR ?_
  refine al_ef rfl (ef_call0 true (fun g => sfault_v v w (g (.o 1 0 1 1)) V Fs [z] hVl hFl (by simp)) rfl .fn rfl (by decide) (by kernel_rfl) rfl (fun _ => .cons (.aL (C0 rfl)) (.cons (.frz rfl rfl rfl rfl rfl) .nil)) (fun _ _ _ _ ⟨hu, hH⟩ => by rw [hu, hH]; exact ⟨.c (.inl trivial), by simp⟩)) ?_
  rintro _ _ ⟨_, _, _, ⟨rfl, rfl⟩, hF, hH⟩
  (try simp only [nsl, Nat.reduceAdd, Nat.reduceLT, Nat.reduceSub] at hF); (try simp only [nsl, Nat.reduceAdd, Nat.reduceLT, Nat.reduceSub] at hH); subst hF; subst hH
  refine WE ?_
  refine WA ?_
  refine aw_if rfl (fun h0 => ?_) (fun h0 => ?_)
  · refine WA ?_
    exact aret_2 [] _ rfl rfl rfl rfl rfl (by decide) (ZNK rfl) (fun _ => .nil) ⟨_, by rw [cutP, if_pos h0]; rfl, rfl⟩
  obtain ⟨hM, hz⟩ := pltF_ok (show pltF V Fs [z] = 0 by omega)
  have e0 : cutP V Fs z = (cutL V Fs z, 0) := by rw [cutP, if_neg h0]
  have hlf := hM.lf
  refine ZZ ?_
  refine WA ?_
  refine WR ?_
  refine al_ef rfl (ef_call0 false (fun _ => segments_p v w V Fs z hM) rfl .fn rfl (by decide) (by kernel_rfl) rfl (fun _ => C0 rfl) (by simp)) ?_
  rintro _ _ ⟨_, _, _, ⟨q, rfl, rfl⟩, hF, hH⟩
  (try simp only [nsl, Nat.reduceAdd, Nat.reduceLT, Nat.reduceSub] at hF); (try simp only [nsl, Nat.reduceAdd, Nat.reduceLT, Nat.reduceSub] at hH); subst hF; subst hH
  refine WE ?_
  have hsd : sdL V Fs z = (sgL V Fs z).flatMap fun g => [g.fr, g.to] := rfl
  have hsl := sgL_len V Fs z
  have hcu : ∀ s ∈ sdL V Fs z, Cuts' V z s := fun s hs => sdL_cuts hM hs
  have hcl : cutL V Fs z = (compG (srtS (sdL V Fs z))).map (cutV V z) := rfl
  have hdl := sdL_len V Fs z
  generalize sgL V Fs z = S at hsd hsl ⊢
  have e5 : (S.map Seg5.row).length = S.length := by simp
  refine aw_loopw (fun m F H => ∃ (k c : Nat) (L : List Sid2), m + k = S.length ∧ L.length = 2 * k ∧ L.length ≤ c ∧ L = (S.take k).flatMap (fun g => [g.fr, g.to]) ∧ F = [(1, .c (I z)), (2, .p 0 0 0), (7, .o 1 0 L.length c), (22, .c (.r q (S.map Seg5.row))), (23, .c (I (S.map Seg5.row).length)), (24, .c (I k))] ∧ H = [mBox v w V (fR Fs), .arr 54 2 c (sR L)]) ?_ ?_
  · refine wk_of [some 0, none] (fun _ => [(1, .c (I z)), (2, .p 0 0 0), (7, .o 1 0 0 0), (22, .c (.r q (S.map Seg5.row))), (23, .c (I (S.map Seg5.row).length)), (24, .c (I (0 : Nat)))]) (fun _ => [mBox v w V (fR Fs), .arr 54 2 0 []]) (by decide) (ZNL hE) ZCF ZCH (fun _ => ?_)
    exact ⟨S.length, 0, 0, [], by omega, rfl, by simp, rfl, rfl, rfl⟩
  rintro m F H ⟨k, c, L, hk, hLk, hcap, hLe, rfl, rfl⟩
  refine WA ?_
  refine aw_if rfl (fun hlt => ?_) (fun hge => ?_)
  · obtain ⟨g, hg⟩ : ∃ z, S[k]? = some z := ⟨_, List.getElem?_eq_getElem (by omega)⟩
    have hn := sd_take hg
    rw [← hLe] at hn
    obtain ⟨gi, ⟨g1, g2⟩, ⟨g3, g4⟩⟩ := g
    have hrow : (S.map Seg5.row)[k]? = some [I gi, I g1, I g2, I g3, I g4] := by rw [List.getElem?_map, hg]; rfl
    refine WA ?_
    refine WR ?_
    refine al_ef rfl (Zapp (KA (t := 64) rfl)) ?_
    rintro _ _ ⟨_, cc, hcc, rfl, rfl⟩
    refine WE ?_
    refine WA ?_
    refine wk_of [some 0, some 1] (fun _ => [(1, .c (I z)), (2, .p 0 0 0), (7, .o 1 0 (L ++ [(⟨g1, g2⟩ : Sid2), ⟨g3, g4⟩]).length cc), (22, .c (.r q (S.map Seg5.row))), (23, .c (I (S.map Seg5.row).length)), (24, .c (I (k + 1 : Nat)))]) (fun _ => _) (by decide) (ZNL hE) ZCF ZCH (fun _ => ?_)
    exact ⟨m - 1, by omega, k + 1, cc, L ++ [⟨g1, g2⟩, ⟨g3, g4⟩], by omega, by simp; omega, by simp; omega, hn.symm, rfl, by simp [sR]⟩
  obtain rfl : k = S.length := by omega
  rw [List.take_of_length_le (Nat.le_refl _), ← hsd] at hLe
  rw [← hLe] at hcu hcl hdl
  clear hLe hsd
  refine ZZ ?_
  refine WR ?_
  refine al_ef rfl (ef_callp [1] (fun _ => [.arr 54 2 c (sR L)]) false (fun _ => sortY_v 60 (by kernel_rfl) cmpS_v L c (by omega)) rfl .fn rfl (by decide) (by kernel_rfl) rfl ZCH (by decide) (fun _ => .arr rfl rfl .nil) (by simp)) ?_
  rintro F1 H1 ⟨_, _, _, _, ⟨rfl, rfl⟩, hF, hH⟩
  rw [killF_nil] at hF; (try simp only [List.set_cons_zero, List.set_cons_succ, updH, posOf, lentArr, killF, killO, killV, AV.has, AV.hasL, AV.emb, AV.embL, OB.emb, embB, List.filter_cons, List.filter_nil, List.getElem?_cons_zero, List.getElem?_cons_succ, List.getD_cons_zero, List.getD_cons_succ, List.drop_succ_cons, List.drop_zero, List.drop_nil, List.contains_cons, List.contains_nil, Nat.reduceBEq, Nat.reduceEqDiff, beq_self_eq_true, Bool.or_false, Bool.false_or, Bool.or_true, Bool.true_or, Bool.false_eq_true, Option.map_some, Option.map_none, List.map_cons, List.map_nil, List.cons_append, List.nil_append, List.append_nil, List.length_cons, List.length_nil, Nat.reduceAdd, Nat.reduceLT, Nat.reduceSub, if_true, if_false, Nat.zero_add, Nat.add_zero, Nat.sub_zero, Nat.lt_irrefl, Nat.not_lt_zero, Nat.zero_lt_one, Nat.lt_add_one] at hF); (try simp only [List.set_cons_zero, List.set_cons_succ, updH, posOf, lentArr, killF, killO, killV, AV.has, AV.hasL, AV.emb, AV.embL, OB.emb, embB, List.filter_cons, List.filter_nil, List.getElem?_cons_zero, List.getElem?_cons_succ, List.getD_cons_zero, List.getD_cons_succ, List.drop_succ_cons, List.drop_zero, List.drop_nil, List.contains_cons, List.contains_nil, Nat.reduceBEq, Nat.reduceEqDiff, beq_self_eq_true, Bool.or_false, Bool.false_or, Bool.or_true, Bool.true_or, Bool.false_eq_true, Option.map_some, Option.map_none, List.map_cons, List.map_nil, List.cons_append, List.nil_append, List.append_nil, List.length_cons, List.length_nil, Nat.reduceAdd, Nat.reduceLT, Nat.reduceSub, if_true, if_false, Nat.zero_add, Nat.add_zero, Nat.sub_zero, Nat.lt_irrefl, Nat.not_lt_zero, Nat.zero_lt_one, Nat.lt_add_one] at hH); subst hF; subst hH
  refine WE ?_
  refine WA ?_
  have hsl0 := srtS_len L
  refine WR ?_
  refine al_ef rfl (ef_call [1] (fun _ => [.arr 54 2 c (sR (srtS L))]) false (fun _ => compactS_v (srtS L) c (by omega) (by omega)) rfl .fn rfl (by decide) (by kernel_rfl) rfl (fun _ => .cons (.o rfl (by omega)) .nil) (by decide) ZCH (by simp)) ?_
  rintro F1 H1 ⟨_, _, _, _, ⟨rfl, rfl⟩, hF, hH⟩
  (try simp only [List.set_cons_zero, List.set_cons_succ, updH, posOf, lentArr, killF, killO, killV, AV.has, AV.hasL, AV.emb, AV.embL, OB.emb, embB, List.filter_cons, List.filter_nil, List.getElem?_cons_zero, List.getElem?_cons_succ, List.getD_cons_zero, List.getD_cons_succ, List.drop_succ_cons, List.drop_zero, List.drop_nil, List.contains_cons, List.contains_nil, Nat.reduceBEq, Nat.reduceEqDiff, beq_self_eq_true, Bool.or_false, Bool.false_or, Bool.or_true, Bool.true_or, Bool.false_eq_true, Option.map_some, Option.map_none, List.map_cons, List.map_nil, List.cons_append, List.nil_append, List.append_nil, List.length_cons, List.length_nil, Nat.reduceAdd, Nat.reduceLT, Nat.reduceSub, if_true, if_false, Nat.zero_add, Nat.add_zero, Nat.sub_zero, Nat.lt_irrefl, Nat.not_lt_zero, Nat.zero_lt_one, Nat.lt_add_one] at hF); (try simp only [List.set_cons_zero, List.set_cons_succ, updH, posOf, lentArr, killF, killO, killV, AV.has, AV.hasL, AV.emb, AV.embL, OB.emb, embB, List.filter_cons, List.filter_nil, List.getElem?_cons_zero, List.getElem?_cons_succ, List.getD_cons_zero, List.getD_cons_succ, List.drop_succ_cons, List.drop_zero, List.drop_nil, List.contains_cons, List.contains_nil, Nat.reduceBEq, Nat.reduceEqDiff, beq_self_eq_true, Bool.or_false, Bool.false_or, Bool.or_true, Bool.true_or, Bool.false_eq_true, Option.map_some, Option.map_none, List.map_cons, List.map_nil, List.cons_append, List.nil_append, List.append_nil, List.length_cons, List.length_nil, Nat.reduceAdd, Nat.reduceLT, Nat.reduceSub, if_true, if_false, Nat.zero_add, Nat.add_zero, Nat.sub_zero, Nat.lt_irrefl, Nat.not_lt_zero, Nat.zero_lt_one, Nat.lt_add_one] at hH); subst hF; subst hH
  refine WE ?_
  have hsln := srtS_len L
  have hcu2 : ∀ s ∈ compG (srtS L), Cuts' V z s := fun s hs => hcu s ((srtS_perm L).subset (compG_mem.1 hs))
  have hgl := compG_len (srtS L)
  generalize compG (srtS L) = G at hcl hcu2 hgl ⊢
  have eG : (sR G).length = G.length := by simp
  refine aw_loopw (fun m F H => ∃ (j c2 : Nat) (O : List Cut6), m + j = G.length ∧ O.length = j ∧ O = (G.take j).map (cutV V z) ∧ F = [(1, .c (I z)), (2, .p 0 0 0), (10, .o 2 0 O.length c2), (39, .o 1 0 G.length c), (40, .c (I G.length)), (41, .c (I j))] ∧ H = [mBox v w V (fR Fs), .arr 54 2 c (sR G), .arr 58 6 c2 (O.map Cut6.row)]) ?_ ?_
  · refine wk_of [some 0, some 1, none] (fun _ => [(1, .c (I z)), (2, .p 0 0 0), (10, .o 2 0 0 0), (39, .o 1 0 G.length c), (40, .c (I G.length)), (41, .c (I (0 : Nat)))]) (fun _ => [mBox v w V (fR Fs), .arr 54 2 c (sR G), .arr 58 6 0 []]) (by decide) (ZNL hE) ZCF ZCH (fun _ => ?_)
    exact ⟨G.length, 0, 0, [], by omega, rfl, rfl, rfl, rfl⟩
  rintro m F H ⟨j, c2, O, hj, hOj, hOe, rfl, rfl⟩
  refine WA ?_
  refine aw_if rfl (fun hlt => ?_) (fun hge => ?_)
  · obtain ⟨s, hs⟩ : ∃ z, G[j]? = some z := ⟨_, List.getElem?_eq_getElem (by omega)⟩
    have hcs := hcu2 s (List.mem_of_getElem? hs)
    have hn : O ++ [cutV V z s] = (G.take (j + 1)).map (cutV V z) := by rw [List.take_add_one, hs, List.map_append, ← hOe]; rfl
    obtain ⟨sf, st⟩ := s
    have hrow0 : (sR G)[0 + j]? = some [I sf, I st] := by rw [Nat.zero_add, List.getElem?_map, hs]; rfl
    refine WA ?_
    refine WR ?_
    refine al_ef rfl (ef_call0 false (fun _ => cut_p v w V Fs z ⟨sf, st⟩ hM hcs hz) rfl .fn rfl (by decide) (by kernel_rfl) rfl (fun _ => C0 rfl) (by simp)) ?_
    rintro _ _ ⟨_, _, _, ⟨rfl, rfl⟩, hF, hH⟩
    (try simp only [nsl, Nat.reduceAdd, Nat.reduceLT, Nat.reduceSub] at hF); (try simp only [nsl, Nat.reduceAdd, Nat.reduceLT, Nat.reduceSub] at hH); subst hF; subst hH
    refine WO ?_
    refine al_ef rfl (Zapp (KA (t := 49) rfl)) ?_
    rintro _ _ ⟨_, cc, hcc, rfl, rfl⟩
    refine WE ?_
    refine WA ?_
    refine wk_of [some 0, some 1, some 2] (fun _ => [(1, .c (I z)), (2, .p 0 0 0), (10, .o 2 0 (O ++ [cutV V z ⟨sf, st⟩]).length cc), (39, .o 1 0 G.length c), (40, .c (I G.length)), (41, .c (I (j + 1 : Nat)))]) (fun _ => _) (by decide) (ZNL hE) ZCF ZCH (fun _ => ?_)
    exact ⟨m - 1, by omega, j + 1, cc, O ++ [cutV V z ⟨sf, st⟩], by omega, by simp; omega, hn, rfl, by simp⟩
  obtain rfl : j = G.length := by omega
  rw [List.take_of_length_le (Nat.le_refl _), ← hcl] at hOe
  refine ZZ ?_
  refine WA ?_
  exact aret_f2 [] _ rfl rfl rfl rfl rfl rfl (by rw [List.drop_zero, List.take_of_length_le (by simp)]) (by simp) rfl (by decide) (ZNK rfl) (fun _ => .nil) (fun q => ⟨q, by rw [e0, hOe], rfl⟩)
end Go.Proofs.YthanangkmjjbaaaGreatDoor

/- The library's contract of sorting lies at this program for segments and contours. -/
namespace Go.Proofs.YthanangkmjjbaaaGreatDoor
open Go Go.Shelf
set_option maxRecDepth 100000
def sortConL_ren : Go.Shelf.Ren := ⟨fun | 6 => 118 | 15 => 116 | 14 => 168 | 28 => 165 | 29 => 166 | 20 => 214 | 21 => 215 | 22 => 216 | 23 => 217 | 24 => 218 | 25 => 219 | 26 => 220 | 27 => 221 | 46 => 252 | 47 => 210 | 48 => 211 | 49 => 253 | 50 => 254 | 57 => 275 | n => n, fun | 22 => 132 | 24 => 135 | 25 => 210 | 3 => 3 | 39 => 204 | 0 => 0 | 53 => 265 | 55 => 267 | 4 => 4 | 46 => 258 | 45 => 257 | 50 => 262 | 5 => 5 | 9 => 9 | 66 => 307 | 70 => 311 | 76 => 342 | 77 => 343 | n => n, fun | n => n⟩
theorem sortConL : Go.Proofs.SlLaysF0.n6 Tryz.prog sortConL_ren := {
  mixed := by kernel_rfl
  f6 := ⟨Tryz.f118.name, by decide, Tryz.func118.trans (congrArg some (by kernel_rfl))⟩
  f14 := ⟨Tryz.f168.name, by decide, Tryz.func168.trans (congrArg some (by kernel_rfl))⟩
  f15 := Tryz.func116.trans (congrArg some (by kernel_rfl))
  f20 := ⟨Tryz.f214.name, by decide, Tryz.func214.trans (congrArg some (by kernel_rfl))⟩
  f21 := ⟨Tryz.f215.name, by decide, Tryz.func215.trans (congrArg some (by kernel_rfl))⟩
  f22 := ⟨Tryz.f216.name, by decide, Tryz.func216.trans (congrArg some (by kernel_rfl))⟩
  f23 := ⟨Tryz.f217.name, by decide, Tryz.func217.trans (congrArg some (by kernel_rfl))⟩
  f24 := ⟨Tryz.f218.name, by decide, Tryz.func218.trans (congrArg some (by kernel_rfl))⟩
  f25 := ⟨Tryz.f219.name, by decide, Tryz.func219.trans (congrArg some (by kernel_rfl))⟩
  f26 := ⟨Tryz.f220.name, by decide, Tryz.func220.trans (congrArg some (by kernel_rfl))⟩
  f27 := ⟨Tryz.f221.name, by decide, Tryz.func221.trans (congrArg some (by kernel_rfl))⟩
  f28 := Tryz.func165.trans (congrArg some (by kernel_rfl))
  f29 := Tryz.func166.trans (congrArg some (by kernel_rfl))
  f46 := ⟨Tryz.f252.name, by decide, Tryz.func252.trans (congrArg some (by kernel_rfl))⟩
  f47 := Tryz.func210.trans (congrArg some (by kernel_rfl))
  f48 := Tryz.func211.trans (congrArg some (by kernel_rfl))
  f49 := ⟨Tryz.f253.name, by decide, Tryz.func253.trans (congrArg some (by kernel_rfl))⟩
  f50 := ⟨Tryz.f254.name, by decide, Tryz.func254.trans (congrArg some (by kernel_rfl))⟩
  f57 := ⟨Tryz.f275.name, by decide, Tryz.func275.trans (congrArg some (by kernel_rfl))⟩
  t0 := Tryz.underlying0
  a0 := Tryz.isAgg0
  z0 := Tryz.sizeOf0
  v0 := Tryz.zeroValue0
  t3 := Tryz.underlying3
  a3 := Tryz.isAgg3
  z3 := Tryz.sizeOf3
  v3 := Tryz.zeroValue3
  t4 := Tryz.underlying4
  a4 := Tryz.isAgg4
  z4 := Tryz.sizeOf4
  v4 := Tryz.zeroValue4
  t5 := Tryz.underlying5
  a5 := Tryz.isAgg5
  z5 := Tryz.sizeOf5
  v5 := Tryz.zeroValue5
  t9 := Tryz.underlying9
  a9 := Tryz.isAgg9
  z9 := Tryz.sizeOf9
  v9 := Tryz.zeroValue9
  t22 := Tryz.underlying132
  a22 := Tryz.isAgg132
  z22 := Tryz.sizeOf132
  v22 := Tryz.zeroValue132
  t25 := Tryz.underlying210
  a25 := Tryz.isAgg210
  z25 := Tryz.sizeOf210
  v25 := Tryz.zeroValue210
  t39 := Tryz.underlying204
  a39 := Tryz.isAgg204
  z39 := Tryz.sizeOf204
  v39 := Tryz.zeroValue204
  t45 := Tryz.underlying257
  a45 := Tryz.isAgg257
  z45 := Tryz.sizeOf257
  v45 := Tryz.zeroValue257
  t46 := Tryz.underlying258
  a46 := Tryz.isAgg258
  z46 := Tryz.sizeOf258
  v46 := Tryz.zeroValue258
  t50 := Tryz.underlying262
  a50 := Tryz.isAgg262
  z50 := Tryz.sizeOf262
  v50 := Tryz.zeroValue262
  t53 := Tryz.underlying265
  a53 := Tryz.isAgg265
  z53 := Tryz.sizeOf265
  v53 := Tryz.zeroValue265
  t55 := Tryz.underlying267
  a55 := Tryz.isAgg267
  z55 := Tryz.sizeOf267
  v55 := Tryz.zeroValue267
  t66 := Tryz.underlying307
  a66 := Tryz.isAgg307
  z66 := Tryz.sizeOf307
  v66 := Tryz.zeroValue307
  t70 := Tryz.underlying311
  a70 := Tryz.isAgg311
  z70 := Tryz.sizeOf311
  v70 := Tryz.zeroValue311
  t76 := Tryz.underlying342
  a76 := Tryz.isAgg342
  z76 := Tryz.sizeOf342
  v76 := Tryz.zeroValue342
  t77 := Tryz.underlying343
  a77 := Tryz.isAgg343
  z77 := Tryz.sizeOf343
  v77 := Tryz.zeroValue343 }
end Go.Proofs.YthanangkmjjbaaaGreatDoor
