/- The law QuietHeightsAreAlike, walked. -/
import Derived.Test.YthanangkmjjbaaaGreatDoorQba
import Derived.Test.YthanangkmjjbaaaGreatDoorQbh
import Derived.Test.YthanangkmjjbaaaGreatDoorQbd
import Derived.Test.YthanangkmjjbaaaGreatDoorQbt
set_option linter.unusedSimpArgs false
set_option linter.unusedVariables false
/- The law QuietHeightsAreAlike, walked. -/
-- NEWM
namespace Go.Proofs.YthanangkmjjbaaaGreatDoor
open Go Go.RowKit
set_option maxRecDepth 100000
/- ## Plain: where no vertex lies between, nothing changes -/
theorem compL_G : ∀ l : List Int, compL l = compG l
  | [] => rfl
  | [_] => rfl
  | x :: y :: l => by unfold compL compG; rw [compL_G (y :: l)]
theorem compG_sub {α : Type} [DecidableEq α] : ∀ l : List α, (compG l).Sublist l
  | [] => .slnil
  | [_] => List.Sublist.refl _
  | x :: y :: l => by
    unfold compG
    split
    · exact (compG_sub (y :: l)).cons _
    · exact (compG_sub (y :: l)).cons_cons _
theorem lvl_sorted (V : List Vec3) (Fs : List Fac3) : (lvlL V Fs).Pairwise (· ≤ ·) := by
  unfold lvlL
  rw [compL_G]
  refine List.Pairwise.sublist (compG_sub _) ?_
  have := List.pairwise_mergeSort (le := fun x y : Int => decide (x ≤ y)) (fun a b c h1 h2 => by simp at *; omega) (fun a b => by simp; omega) (zs V Fs)
  exact this.imp fun h => by simpa using h
theorem lvl_mem {V : List Vec3} {Fs : List Fac3} {x : Int} : x ∈ lvlL V Fs ↔ x ∈ zs V Fs := by
  unfold lvlL
  rw [compL_G, compG_mem]
  exact (List.mergeSort_perm _ _).mem_iff
/-- Each height is at the lower one or below, or at the upper one or above. -/
theorem lvl_gap {V : List Vec3} {Fs : List Fac3} {k : Nat} {u x : Int} (hu : (lvlL V Fs)[k]? = some u) (hx : (lvlL V Fs)[k + 1]? = some x) : ∀ y ∈ zs V Fs, y ≤ u ∨ x ≤ y := fun y hy => by
  have hs := lvl_sorted V Fs
  obtain ⟨j, hj, e⟩ := List.getElem_of_mem (lvl_mem.2 hy)
  obtain ⟨hk, eu⟩ := List.getElem?_eq_some_iff.1 hu
  obtain ⟨hk1, ex⟩ := List.getElem?_eq_some_iff.1 hx
  rw [List.pairwise_iff_getElem] at hs
  rcases Nat.lt_trichotomy j k with h | h | h
  · left; rw [← e, ← eu]; exact hs j k hj hk h
  · left; subst h; rw [← e, ← eu]; exact Int.le_refl _
  · right
    rcases Nat.lt_or_ge (k + 1) j with h2 | h2
    · rw [← e, ← ex]; exact hs (k + 1) j hk1 hj h2
    · obtain rfl : j = k + 1 := by omega
      rw [← e, ← ex]; exact Int.le_refl _
theorem lvlP_len' (V : List Vec3) (Fs : List Fac3) : (lvlL V Fs).length ≤ 3 * Fs.length := by
  unfold lvlL
  rw [compL_G]
  have h1 := compG_len (List.mergeSort (zs V Fs) fun x y => decide (x ≤ y))
  rw [(List.mergeSort_perm _ _).length_eq] at h1
  rw [zs_len] at h1
  exact h1
theorem fzs_in {V : List Vec3} {Fs : List Fac3} {f : Fac3} (hf : f ∈ Fs) {x : Int} (hx : x ∈ fzs V f) : x ∈ zs V Fs := List.mem_flatMap.2 ⟨f, hf, hx⟩
theorem sgL_quiet {V : List Vec3} {Fs : List Fac3} {z y : Int} (h : ∀ x ∈ zs V Fs, (z ≤ x ↔ y ≤ x)) : sgL V Fs z = sgL V Fs y := by
  have hc : ∀ f ∈ Fs, crF V z f = crF V y f := fun f hf => by
    have h1 := h _ (fzs_in hf (minL_mem (l := fzs V f) (by simp [fzs])))
    have h2 := h _ (fzs_in hf (maxL_mem (l := fzs V f) (by simp [fzs])))
    unfold crF
    rw [Bool.eq_iff_iff]
    simp only [Bool.and_eq_true, decide_eq_true_eq]
    omega
  have hs : ∀ f ∈ Fs, ∀ i, sgF V z i f = sgF V y i f := fun f hf i => by
    have ha : upI V z f.a = upI V y f.a := by unfold upI; rw [decide_eq_decide]; exact h _ (fzs_in hf (by simp [fzs]))
    have hb : upI V z f.b = upI V y f.b := by unfold upI; rw [decide_eq_decide]; exact h _ (fzs_in hf (by simp [fzs]))
    have hcc : upI V z f.c = upI V y f.c := by unfold upI; rw [decide_eq_decide]; exact h _ (fzs_in hf (by simp [fzs]))
    simp only [sgF, sds, List.foldl_cons, List.foldl_nil, sgS, ha, hb, hcc]
  have hn : crN V Fs z Fs.length = crN V Fs y Fs.length := List.filter_congr fun i hi => hc _ (fcAt_mem (List.mem_range.1 hi))
  unfold sgL crT
  rw [hn]
  refine List.map_congr_left fun x hx => ?_
  obtain ⟨i, hi, rfl⟩ := List.mem_map.1 hx
  unfold sgAt
  exact hs _ (fcAt_mem (by simpa using (crN_mem.1 hi).1)) _

/- ## The walk -/
theorem lessI_v (m n : Int) : ACalls Tryz.prog 71 [.c (I m), .c (I n)] [] fun u H => u = .c (B (decide (m < n))) ∧ H = [] := by
  refine acalls_of (N := 17) Tryz.func71 rfl rfl (by simp) fun E hE => ?_
  refine WA ?_
  refine WR ?_
  refine al_ef rfl (ef_call0 false (fun _ => nanI_v _) rfl .fn rfl (by decide) (by kernel_rfl) rfl (fun _g => .cons (.c rfl) .nil) (by simp)) ?_
  rintro _ _ ⟨_, _, _, ⟨rfl, rfl⟩, hF, hH⟩
  (try simp only [nsl, Nat.reduceAdd, Nat.reduceLT, Nat.reduceSub] at hF); (try simp only [nsl, Nat.reduceAdd, Nat.reduceLT, Nat.reduceSub] at hH); subst hF; subst hH
  refine WE ?_
  exact aret_1 [] _ rfl rfl rfl (by decide) (ZNK rfl) (fun _ => .nil) ⟨rfl, rfl⟩
theorem issorted_v (l : List Int) (v : Value) (hl : l.length ≤ 1000000) (hs : l.Pairwise (· ≤ ·)) : ACalls Tryz.prog 26 [.c (.r v (zR l))] [] fun u H => u = .c (B true) ∧ H = [] := by
  have e1 : (zR l).length = l.length := by simp
  refine acalls_of (N := 21) Tryz.func26 rfl rfl (by simp) fun E hE => ?_
  refine WA ?_
  refine WA ?_
  refine aw_loopw (fun m F H => ∃ (z : Int), m = z.toNat ∧ -1 ≤ z ∧ z < l.length ∧ F = [(0, .c (.r v (zR l))), (3, .c (I z))] ∧ H = []) ?_ ?_
  · refine wk_of [] (fun _ => [(0, .c (.r v (zR l))), (3, .c (I ((zR l).length - 1)))]) (fun _ => _) (by decide) (ZNL hE) ZCF (fun _ => .nil) (fun _ => ?_)
    exact ⟨_, _, rfl, by omega, by omega, rfl, rfl⟩
  rintro m F H ⟨z, hm, hz1, hz2, rfl, rfl⟩
  refine WA ?_
  refine aw_if rfl (fun hlt => ?_) (fun hge => ?_)
  · obtain ⟨k, rfl⟩ : ∃ k : Nat, z = (k + 1 : Nat) := ⟨z.toNat - 1, by omega⟩
    obtain ⟨x, hx⟩ : ∃ x, l[k + 1]? = some x := ⟨_, List.getElem?_eq_getElem (by omega)⟩
    obtain ⟨u, hu⟩ : ∃ x, l[k]? = some x := ⟨_, List.getElem?_eq_getElem (by omega)⟩
    have hux : u ≤ x := by
      obtain ⟨hk, eu⟩ := List.getElem?_eq_some_iff.1 hu
      obtain ⟨hk1, ex⟩ := List.getElem?_eq_some_iff.1 hx
      rw [List.pairwise_iff_getElem] at hs
      rw [← eu, ← ex]
      exact hs k (k + 1) hk hk1 (by omega)
    have hrx : (zR l)[k + 1]? = some [I x] := by rw [List.getElem?_map, hx]; rfl
    have hru : (zR l)[k]? = some [I u] := by rw [List.getElem?_map, hu]; rfl
    refine ZZ ?_
    refine aw_regionT [(0, none), (1, none), (2, none), (3, none), (4, none), (5, none), (6, none), (7, none), (8, none), (9, some [])] hMixed (by kernel_rfl) ?_
    iterate 2 refine WX2 ?_
    refine ZT rfl (rd_indexq (i := k + 1) rfl (KE (t := 22) rfl) rfl rfl (by omega) hrx rfl) ?_
    iterate 4 refine WX2 ?_
    refine ZT rfl (rd_indexq (i := k) rfl (KE (t := 22) rfl) rfl rfl (by omega) hru rfl) ?_
    refine WP ?_
    refine at_ef rfl rfl (ef_call0 false (fun _ => lessI_v _ _) rfl .fn rfl (by decide) (by kernel_rfl) rfl (fun _g => .cons (.c rfl) (.cons (.c rfl) .nil)) (by simp)) ?_
    rintro _ _ ⟨_, _, _, ⟨rfl, rfl⟩, hF, hH⟩
    (try simp only [nsl, Nat.reduceAdd, Nat.reduceLT, Nat.reduceSub] at hF); (try simp only [nsl, Nat.reduceAdd, Nat.reduceLT, Nat.reduceSub] at hH); subst hF; subst hH
    refine ⟨ag_none, ?_⟩
    refine WQ ?_
    refine aw_if rfl (fun h => absurd h (by omega)) (fun _ => ?_)
    refine ZZ ?_
    refine WA ?_
    refine wk_of [] (fun _ => [(0, .c (.r v (zR l))), (3, .c (I (k : Nat)))]) (fun _ => _) (by decide) (ZNL hE) ZCF (fun _ => .nil) (fun _ => ?_)
    exact ⟨k, by omega, k, by omega, by omega, by omega, rfl, rfl⟩
  refine WA ?_
  exact aret_1 [] _ rfl rfl rfl (by decide) (ZNK rfl) (fun _ => .nil) ⟨rfl, rfl⟩
set_option maxHeartbeats 8000000 in
theorem law_quiet (v : Value) (zs : List Int) (hs : StrOk zs) : ACalls Tryz.prog 6 [.c (.r v (zs.map fun z => [I z]))] [] fun u H => u = .c (B true) := by
  refine acalls_of (N := 82) Tryz.func6 rfl rfl (by simp) fun E hE => ?_
  refine WA ?_
  refine WA ?_
  refine WR ?_
  refine al_ef rfl (ef_callm false (fun _ => rightmesh_v _ _ _ hs (by omega) (by omega)) rfl .fn rfl (by decide) (by kernel_rfl) rfl rfl (fun _g => .cons (.p rfl) .nil) (fun _g => .cons (.c rfl) (.cons (.c rfl) .nil)) (by simp)) ?_
  rintro F1 H1 ⟨_, _, _, _, ⟨a2, q, w, V, Fs, rfl, hq, ha3, ha4, hV, hFl, hmf⟩, hF, hH⟩
  injection hq with hq1 hq2; subst hq1; subst hq2
  (try simp only [nsl, Nat.reduceAdd, Nat.reduceLT, Nat.reduceSub] at hF); (try simp only [nsl, Nat.reduceAdd, Nat.reduceLT, Nat.reduceSub] at hH); subst hF; subst hH
  refine WE ?_
  have hM : MOk V Fs := mok_of hmf
  refine WR ?_
  refine al_ef rfl (ef_call0 false (fun _ => levels_p q w V Fs (by omega) (by omega)) rfl .fn rfl (by decide) (by kernel_rfl) rfl (fun _ => C0 rfl) (by simp)) ?_
  rintro _ _ ⟨_, _, _, ⟨qv, rfl, rfl⟩, hF, hH⟩
  (try simp only [nsl, Nat.reduceAdd, Nat.reduceLT, Nat.reduceSub] at hF); (try simp only [nsl, Nat.reduceAdd, Nat.reduceLT, Nat.reduceSub] at hH); subst hF; subst hH
  refine WE ?_
  have el : lvlP V Fs = (lvlL V Fs, 0) := by rw [lvlP, if_neg (by omega)]
  rw [el]
  have hsd := lvl_sorted V Fs
  have hgap := fun k u x => lvl_gap (V := V) (Fs := Fs) (k := k) (u := u) (x := x)
  have hnear : ∀ x ∈ lvlL V Fs, -100000 ≤ x ∧ x ≤ 100000 := fun x hx => zs_near hM x (lvl_mem.1 hx)
  have hpos : 1 ≤ (lvlL V Fs).length := List.length_pos_iff.2 fun h => by
    have := lvl_mem.2 (minL_mem (zs_ne (V := V) hM.ne))
    rw [h] at this; cases this
  have hle : (lvlL V Fs).length ≤ 75 := by
    have h1 := lvlP_len' V Fs
    omega
  simp only
  generalize lvlL V Fs = L at hsd hgap hnear hpos hle ⊢
  have e1 : (zR L).length = L.length := by simp
  clear el
  refine WR ?_
  refine G1 rfl ?_
  refine al_ef rfl (ef_call0 false (fun _ => issorted_v L qv (by omega) hsd) rfl .fn rfl (by decide) (by kernel_rfl) rfl (fun _ => C0 rfl) (by simp)) ?_
  rintro _ _ ⟨_, _, _, ⟨rfl, rfl⟩, hF, hH⟩
  (try simp only [nsl, Nat.reduceAdd, Nat.reduceLT, Nat.reduceSub] at hF); (try simp only [nsl, Nat.reduceAdd, Nat.reduceLT, Nat.reduceSub] at hH); subst hF; subst hH
  refine WE ?_
  refine aw_cond_f rfl ?_
  refine ZZ ?_
  refine WA ?_
  refine aw_loopw (fun m F Hh => ∃ (k : Nat) (a' : Int), m + k = L.length ∧ 1 ≤ k ∧ 0 ≤ a' ∧ a' ≤ 1600 + k ∧ F = [(3, .p 0 0 0), (4, .p 1 0 0), (5, .c (.r qv (zR L))), (7, .c (I k))] ∧ Hh = [strm v zs a', mBox q w V (fR Fs)]) ?_ ?_
  · refine wk_of [some 0, some 1] (fun _ => [(3, .p 0 0 0), (4, .p 1 0 0), (5, .c (.r qv (zR L))), (7, .c (I (1 : Nat)))]) (fun _ => [strm v zs a2, mBox q w V (fR Fs)]) (by decide) (ZNL hE) ZCF ZCH (fun _ => ?_)
    exact ⟨L.length - 1, 1, a2, by omega, by omega, by omega, by omega, rfl, rfl⟩
  rintro m F H ⟨k, a', hk, hk1, ha1, ha2, rfl, rfl⟩
  refine WA ?_
  refine aw_if rfl (fun hlt => ?_) (fun hge => ?_)
  · obtain ⟨k, rfl⟩ : ∃ q : Nat, k = q + 1 := ⟨k - 1, by omega⟩
    obtain ⟨x, hx⟩ : ∃ x, L[k + 1]? = some x := ⟨_, List.getElem?_eq_getElem (by omega)⟩
    obtain ⟨u, hu⟩ : ∃ x, L[k]? = some x := ⟨_, List.getElem?_eq_getElem (by omega)⟩
    have nx := hnear x (List.mem_of_getElem? hx)
    have nu := hnear u (List.mem_of_getElem? hu)
    have hrx : (zR L)[k + 1]? = some [I x] := by rw [List.getElem?_map, hx]; rfl
    have hru : (zR L)[k]? = some [I u] := by rw [List.getElem?_map, hu]; rfl
    refine ZZ ?_
    refine aw_regionT [(0, none), (1, none), (2, none), (3, none), (4, none), (5, none), (6, none), (7, none), (8, none), (9, none), (10, none)] hMixed (by kernel_rfl) ?_
    iterate 2 refine WX2 ?_
    refine ZT rfl (rd_indexq (i := k + 1) rfl (KE (t := 22) rfl) rfl rfl (by omega) hrx rfl) ?_
    iterate 4 refine WX2 ?_
    refine ZT rfl (rd_indexq (i := k) rfl (KE (t := 22) rfl) rfl rfl (by omega) hru rfl) ?_
    refine WQ ?_
    refine aw_if rfl (fun hd => ?_) (fun hd => ?_)
    · refine ZZ ?_
      refine WA ?_
      refine wk_of [some 0, some 1] (fun _ => [(3, .p 0 0 0), (4, .p 1 0 0), (5, .c (.r qv (zR L))), (7, .c (I (k + 1 + 1 : Nat)))]) (fun _ => [strm v zs a', mBox q w V (fR Fs)]) (by decide) (ZNL hE) ZCF ZCH (fun _ => ?_)
      exact ⟨m - 1, by omega, k + 1 + 1, a', by omega, by omega, by omega, by omega, rfl, rfl⟩
    · refine ZZ ?_
      refine ZR ?_
      iterate 3 refine WX1 ?_
      refine ZA (rd_indexq (i := k) rfl (KE (t := 22) rfl) rfl rfl (by omega) hru rfl) ?_
      refine WE ?_
      refine ZR ?_
      iterate 4 refine WX1 ?_
      refine ZA (rd_indexq (i := k + 1) rfl (KE (t := 22) rfl) rfl rfl (by omega) hrx rfl) ?_
      refine WO ?_
      refine al_ef rfl (ef_callm false (fun _ => next_a (x - (u + 1) + 1) _ _ _ hs (by omega) (by omega) (by simp only [in64]; omega)) rfl .fn rfl (by decide) (by kernel_rfl) rfl rfl (fun _g => .cons (.p rfl) (.cons (.c rfl) .nil)) (fun _g => .cons (.c rfl) (.cons (.c rfl) .nil)) (by simp)) ?_
      rintro F1 H1 ⟨_, _, _, _, ⟨rr, rfl, hq, hr1, hr2⟩, hF, hH⟩
      injection hq with hq1 hq2; subst hq1; subst hq2
      (try simp only [nsl, Nat.reduceAdd, Nat.reduceLT, Nat.reduceSub] at hF); (try simp only [nsl, Nat.reduceAdd, Nat.reduceLT, Nat.reduceSub] at hH); subst hF; subst hH
      refine WE ?_
      have hrr : 0 ≤ rr ∧ rr < x - (u + 1) + 1 := ⟨hr1, hr2 (by omega)⟩
      have hplt : pltF V Fs [u + 1, u + 1 + rr] = 0 := by
        unfold pltF plnF
        rw [if_neg (by omega), if_neg]
        simp [farI]; omega
      refine WR ?_
      refine al_ef rfl (ef_call0 false (fun _ => alike_p q w V Fs (u + 1) (u + 1 + rr) (by omega) (by omega)) rfl .fn rfl (by decide) (by kernel_rfl) rfl (fun _ => C0 rfl) (by simp)) ?_
      rintro _ _ ⟨_, _, _, ⟨bal, rfl, rfl, halk⟩, hF, hH⟩
      (try simp only [nsl, Nat.reduceAdd, Nat.reduceLT, Nat.reduceSub] at hF); (try simp only [nsl, Nat.reduceAdd, Nat.reduceLT, Nat.reduceSub] at hH); subst hF; subst hH
      refine WE ?_
      rw [hplt] at halk ⊢
      obtain ⟨cs1, cs2, hc1, hc2, hb⟩ := halk.2 rfl
      have hq : sgL V Fs (u + 1) = sgL V Fs (u + 1 + rr) := sgL_quiet fun y hy => by
        rcases hgap k u x hu hx y hy with h | h <;> omega
      rw [hq] at hc1
      obtain rfl : bal = true := hb.2 (hc1.det hc2)
      refine WA ?_
      refine aw_cond_f rfl ?_
      refine ZZ ?_
      refine WA ?_
      refine wk_of [some 0, some 1] (fun _ => [(3, .p 0 0 0), (4, .p 1 0 0), (5, .c (.r qv (zR L))), (7, .c (I (k + 1 + 1 : Nat)))]) (fun _ => [strm v zs (a' + 1), mBox q w V (fR Fs)]) (by decide) (ZNL hE) ZCF ZCH (fun _ => ?_)
      exact ⟨m - 1, by omega, k + 1 + 1, a' + 1, by omega, by omega, by omega, by omega, rfl, rfl⟩
  refine ZZ ?_
  refine ZR ?_
  refine al_ef rfl (ef_call0 false (fun _ => ready_a) rfl .fn rfl (by decide) (by kernel_rfl) rfl (fun _ => C0 rfl) (by simp)) ?_
  rintro _ _ ⟨_, _, _, ⟨rfl, rfl⟩, hF, hH⟩
  (try simp only [nsl, Nat.reduceAdd, Nat.reduceLT, Nat.reduceSub] at hF); (try simp only [nsl, Nat.reduceAdd, Nat.reduceLT, Nat.reduceSub] at hH); subst hF; subst hH
  refine WE ?_
  exact aret_1 [] [] rfl rfl rfl (by decide) (ZNK rfl) (fun _ => .nil) rfl
end Go.Proofs.YthanangkmjjbaaaGreatDoor
