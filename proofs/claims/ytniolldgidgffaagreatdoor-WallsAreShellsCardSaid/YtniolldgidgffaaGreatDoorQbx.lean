/- The law WallsAreShells, walked. -/
import Derived.Test.YtniolldgidgffaaGreatDoorQbm
import Derived.Test.YtniolldgidgffaaGreatDoorQbw
set_option linter.unusedSimpArgs false
set_option linter.unusedVariables false
/- The law WallsAreShells, walked. -/
-- NEWM
namespace Go.Proofs.YtniolldgidgffaaGreatDoor
open Go Go.RowKit
set_option maxRecDepth 100000
theorem kerrs_v (l : List Int) (v : Value) (hl : l.length ≤ 1000000) : ACalls Tryz.prog 47 [.c (.r v (nR l))] [] fun u H => u = .c (I (fstN l)) ∧ H = [] := by
 have e1 : (nR l).length = l.length := by simp
 refine acalls_of (N := 15) Tryz.func47 rfl rfl (by simp) fun E hE => ?_
 refine WA ?_
 refine WA ?_
 refine aw_loopw (fun m F H => ∃ (k : Nat), m + k = l.length ∧ fstN (l.drop k) = fstN l ∧ F = [(5, .c (.r v (nR l))), (6, .c (I (nR l).length)), (7, .c (I k))] ∧ H = []) ?_ ?_
 ·refine wk_of [] (fun _ => [(5, .c (.r v (nR l))), (6, .c (I (nR l).length)), (7, .c (I (0 : Nat)))]) (fun _ => _) (by decide) (ZNL hE) ZCF (fun _ => .nil) (fun _ => ?_)
  exact ⟨l.length, 0, by omega, rfl, rfl, rfl⟩
 rintro m F H ⟨k, hk, hf, rfl, rfl⟩
 refine WA ?_
 refine aw_if rfl (fun hlt => ?_) (fun hge => ?_)
 ·obtain ⟨n, hn⟩ : ∃ n, l[k]? = some n := ⟨_, List.getElem?_eq_getElem (by omega)⟩
  have hrow : (nR l)[k]? = some [I n] := by rw [List.getElem?_map, hn]; rfl
  have hd := fstN_drop hn
  refine WA ?_
  refine WA ?_
  refine aw_if rfl (fun hv => ?_) (fun hv => ?_)
  ·refine WA ?_
   exact aret_1 [] _ rfl rfl rfl (by decide) (ZNK rfl) (fun _ => .nil) ⟨by rw [← hf, hd, if_neg hv], rfl⟩
  ·refine WA ?_
   refine wk_of [] (fun _ => [(5, .c (.r v (nR l))), (6, .c (I (nR l).length)), (7, .c (I (k + 1 : Nat)))]) (fun _ => _) (by decide) (ZNL hE) ZCF (fun _ => .nil) (fun _ => ?_)
   exact ⟨m - 1, by omega, k + 1, by omega, by rw [← hf, hd, if_pos (by omega)], rfl, rfl⟩
 refine WA ?_
 exact aret_1 [] _ rfl rfl rfl (by decide) (ZNK rfl) (fun _ => .nil) ⟨by rw [← hf, List.drop_eq_nil_of_le (by omega)]; rfl, rfl⟩
theorem sR_walk (c : Cel) (k : Nat) (l : List (Value × Cel)) (h : l.map Prod.snd = (List.range (k + 1)).map (walC c)) : (l.take k).map Prod.snd = (List.range k).map (walC c) := by
 rw [List.map_take, h, ← List.map_take, List.take_range]
 congr 2
 omega
set_option maxHeartbeats 8000000 in
theorem law_walls (v : Value) (zs : List Int) (hs : StrOk zs) : ACalls Tryz.prog 6 [.c (.r v (zs.map fun z => [I z]))] [] fun u H => u = .c (B true) := by
 refine acalls_of (N := 128) Tryz.func6 rfl rfl (by simp) fun E hE => ?_
 refine WA ?_
 refine WA ?_
 refine WR ?_
 refine al_ef rfl (ef_callm false (fun _ => rightcells_v 10 (by decide) _ _ _ hs (by omega) (by omega)) rfl .fn rfl (by decide) (by kernel_rfl) rfl rfl (fun _g => .cons (.p rfl) (.cons (.c rfl) .nil)) (fun _g => .cons (.c rfl) (.cons (.c rfl) .nil)) (by simp)) ?_
 rintro F1 H1 ⟨_, _, _, _, ⟨vc, c, ac, rfl, hq, hac1, hac2, hcn, hcst⟩, hF, hH⟩
 injection hq with hq1 hq2; subst hq1; subst hq2
 (refine NST hF hH ?_; clear hF hH; rintro rfl rfl)
 refine WO ?_
 refine al_ef rfl (ef_callm false (fun _ => range_a 0 3 _ _ _ hs (by omega) (by omega) (by omega) (by omega) (by omega) (by omega)) rfl .fn rfl (by decide) (by kernel_rfl) rfl rfl (fun _g => .cons (.p rfl) (.cons (.c rfl) (.cons (.c rfl) .nil))) (fun _g => .cons (.c rfl) (.cons (.c rfl) .nil)) (by simp)) ?_
 rintro F1 H1 ⟨_, _, _, _, ⟨n, an, rfl, hq, hr3n, hr4n, hr1n, hr2n, _⟩, hF, hH⟩
 injection hq with hq1 hq2; subst hq1; subst hq2
 (refine NST hF hH ?_; clear hF hH; rintro rfl rfl)
 refine WE ?_
 obtain ⟨k, rfl⟩ : ∃ k : Nat, n = (k : Int) := ⟨n.toNat, by omega⟩
 have hk : k ≤ 3 := by omega
 refine aw_wk (wk_of (K := fun F H => F = [(4, .p 0 0 0), (5, .c (I k))] ∧ H = [celB vc c]) [some 1] (fun _ => [(4, .p 0 0 0), (5, .c (I k))]) (fun _ => [celB vc c]) (by decide) (ZNL hE) ZCF ZCH (fun _ => ⟨rfl, rfl⟩)) ?_
 rintro F H ⟨rfl, rfl⟩
 clear hs hac1 hac2 hr3n hr4n hr1n hr2n
 have hw1 := wallsr_v vc c hcn k (by omega)
 have hw2 := wallsr_v vc c hcn (k + 1) (by omega)
 have hcl : c.rows.length ≤ 1000000000 := by have := hcn.r.h; omega
 refine WR ?_
 refine al_ef rfl (ef_call0 false (fun _ => hw1) rfl .fn rfl (by decide) (by kernel_rfl) rfl (fun _ => C0 rfl) (by simp)) ?_
 rintro _ _ ⟨_, _, _, ⟨v1, w1, l1, rfl, hl1, rfl⟩, hF, hH⟩
 (refine NST hF hH ?_; clear hF hH; rintro rfl rfl)
 refine WE ?_
 refine WR ?_
 refine al_ef rfl (ef_call0 false (fun _ => hw2) rfl .fn rfl (by decide) (by kernel_rfl) rfl (fun _ => C0 rfl) (by simp)) ?_
 rintro _ _ ⟨_, _, _, ⟨v2, w2, l2, rfl, hl2, rfl⟩, hF, hH⟩
 (refine NST hF hH ?_; clear hF hH; rintro rfl rfl)
 refine WE ?_
 have n1 : l1.length = k := by have := congrArg List.length hl1; simpa using this
 have n2 : l2.length = k + 1 := by have := congrArg List.length hl2; simpa using this
 have e1 : (cR l1).length = k := by simp [n1]
 have e2 : (cR l2).length = k + 1 := by simp [n2]
 have hr1 : ∀ p ∈ l1, RCel p.2 ∧ p.2.st = c.st := fun p hp => by
  have : p.2 ∈ (List.range k).map (walC c) := by rw [← hl1]; exact List.mem_map_of_mem hp
  obtain ⟨j, _, hj⟩ := List.mem_map.1 this
  rw [← hj]
  exact ⟨wal_r hcn j, celN_st _ _⟩
 have hrr1 : ∀ p ∈ l1, p.2.rows.length ≤ 1000000000 := fun p hp => by have := (hr1 p hp).1.h; omega
 have hl2k := sR_walk c k l2 hl2
 have hsam : ∀ w3, ACalls Tryz.prog 48 [.c (.r w3 (cR (l2.take k))), .c (.r w1 (cR l1)), .f (.func 34) []] [] fun u H => u = .c (B true) ∧ H = [] :=
  fun w3 => samecs_v w3 w1 (l2.take k) l1 (by rw [hl2k, hl1]) (by simp; omega) (fun p hp => by
   have : p.2 ∈ (List.range k).map (walC c) := by rw [← hl2k]; exact List.mem_map_of_mem hp
   obtain ⟨j, _, hj⟩ := List.mem_map.1 this
   rw [← hj]
   have := (wal_r hcn j).h; omega)
 have hq : ((cR l2).take k).drop 0 = cR (l2.take k) := by rw [List.drop_zero, ← List.map_take]
 obtain ⟨⟨wk, ck⟩, hlk⟩ : ∃ e, l2[k]? = some e := ⟨_, List.getElem?_eq_getElem (by omega)⟩
 obtain rfl : ck = walC c k := by
  have : (l2.map Prod.snd)[k]? = some ck := by rw [List.getElem?_map, hlk]; rfl
  rw [hl2, List.getElem?_map, List.getElem?_range (by omega)] at this
  simpa using this.symm
 have hrow : (cR l2)[k]? = some (celR wk (walC c k)) := by rw [List.getElem?_map, hlk]; rfl
 have hall4 : ∀ row ∈ cR l2, row.length = 4 := fun row h => by
  obtain ⟨p, _, rfl⟩ := List.mem_map.1 h; rfl
 have hrw := wal_r hcn k
 have hr2 := shq_r hcn (k + 1)
 have hsr1 := shq_r hcn k
 have hst1 : (walC c k).st = c.st := celN_st _ _
 have hun := wal_un hcn k
 have hbo := wal_bot hcn k
 have hu0 := up_0 (c := c) (n := k)
 have hun2 := fun j => up_un hcn k j
 have hur := fun j => up_r hcn k j
 have hupn := up_n hcn k
 have hs1 : (celN c.st (shrL k (covL c))).st = c.st := celN_st _ _
 have hs2 : (celN c.st (shrL (k + 1) (covL c))).st = c.st := celN_st _ _
 have hs3 : ∀ j, (celN c.st (upL k j (covL c))).st = c.st := fun j => celN_st _ _
 have hwk : ∀ j, l1[j]?.map Prod.snd = if j < k then some (walC c j) else none := fun j => by
  rw [← List.getElem?_map, hl1, List.getElem?_map]
  by_cases h : j < k
  ·rw [if_pos h, List.getElem?_range h]; rfl
  ·rw [if_neg h, List.getElem?_eq_none (by simp; omega)]; rfl
 clear hw1 hw2 hl2k
 generalize hW : walC c k = W at *
 generalize celN c.st (shrL k (covL c)) = D1 at *
 generalize celN c.st (shrL (k + 1) (covL c)) = D2 at *
 generalize hU : (fun j => celN c.st (upL k j (covL c))) = U at *
 have hUe : ∀ j, celN c.st (upL k j (covL c)) = U j := fun j => by rw [← hU]
 rw [hUe] at hu0 hupn
 simp only [hUe] at hun2 hur hs3
 clear hUe hU
 have h00 : fstN [0, 0] = 0 := rfl
 have hcu := fun vb => unionr_v wk vb W D2 D1 hrw hr2 (by rw [hst1, hs2]) (by rw [hst1]; exact hun)
 have hcb := fun vb => bothr_v wk vb W D2 ⟨c.st, 0, 0, []⟩ hrw hr2 (by rw [hst1, hs2]) (by rw [hst1]; exact hbo)
 have hcj := fun va (j : Nat) (p : Value × Cel) (hp : p ∈ l1) (hj : p.2 = walC c j) => unionr_v va p.1 (U j) p.2 (U (j + 1)) (hur j) (hr1 p hp).1 (by rw [hs3, (hr1 p hp).2]) (by rw [hs3, hj]; exact hun2 j)
 refine WR ?_
 refine al_ef rfl (ef_call0 true (fun g => kerrs_v [0, 0] (g (.o _ 0 2 2)) (by simp)) rfl .fn rfl (by decide) (by kernel_rfl) rfl (fun _ => .cons (.frz rfl rfl rfl rfl rfl) .nil) (fun _ _ _ _ ⟨hu, hH⟩ => by rw [hu, hH]; exact ⟨.c (.inl trivial), by simp⟩)) ?_
 rintro _ _ ⟨_, _, _, ⟨rfl, rfl⟩, hF, hH⟩
 rw [h00] at hF
 (refine NST hF hH ?_; clear hF hH; rintro rfl rfl)
 refine WO ?_
 refine G1 rfl ?_
 refine al_rd rfl rfl (by decide) (rd_slicerq (l := 0) (h := k) (rows' := cR (l2.take k)) hq rfl (KE (t := 58) rfl) rfl hall4 (.inl ⟨rfl, rfl⟩) (.inr ⟨_, _, _, rfl, rfl, rfl⟩) (by omega) (by omega)) ?_
 refine WO ?_
 refine G1 rfl ?_
 refine al_ef rfl (ef_call0 false (fun _ => hsam _) rfl .fn rfl (by decide) (by kernel_rfl) rfl (fun _ => C0 rfl) (by simp)) ?_
 rintro _ _ ⟨_, _, _, ⟨rfl, rfl⟩, hF, hH⟩
 (refine NST hF hH ?_; clear hF hH; rintro rfl rfl)
 refine WE ?_
 refine aw_cond_f rfl ?_
 refine ZZ ?_
 refine aw_cut (fun F H => ∃ vu, F = [(4, .p 0 0 0), (5, .c (I k)), (6, .c (.r w1 (cR l1))), (7, .p 1 0 0), (9, .c (.r w2 (cR l2))), (10, .p 2 0 0), (12, .p 3 0 0), (13, .c (I 0))] ∧ H = [celB vc c, celB v1 D1, celB v2 D2, celB vu D1]) ?_ ?_ wk_aw
 ·refine ZZ ?_
  refine aw_regionM [[(0, none), (1, none), (2, none), (3, none), (4, none), (5, some []), (6, none), (7, none), (8, none), (9, some [0, 1, 2, 3, 4, 6, 7, 8]), (10, some [8]), (11, none)], [(0, none), (1, none), (2, none), (3, none), (4, none), (9, some [0, 1, 2, 3, 4]), (5, some []), (6, none), (7, none), (8, none), (10, some [8]), (11, none)]] hMixed (by kernel_rfl) ?_
  focus
   refine WM ?_
   refine am_two (by rfl) (by rfl) (by rfl) ?_ ?_
   rotate_left
   refine WM ?_
   refine am_ef (i := 5) (by rfl) (by rfl) rfl rfl (ef_call0 false (fun _ => hcu _) rfl .fn rfl (by decide) (by kernel_rfl) rfl (fun _ => C0 rfl) (by simp)) ?_
   rintro _ _ ⟨_, _, _, ⟨vu, rfl, rfl⟩, hF, hH⟩
   (refine NST hF hH ?_; clear hF hH; rintro rfl rfl)
   refine ⟨AGX, ?_⟩
   refine WN ?_
   rotate_right
   refine am_ef (i := 5) (by rfl) (by rfl) rfl rfl (ef_call0 false (fun _ => hcu _) rfl .fn rfl (by decide) (by kernel_rfl) rfl (fun _ => C0 rfl) (by simp)) ?_
   rintro _ _ ⟨_, _, _, ⟨vu, rfl, rfl⟩, hF, hH⟩
   (refine NST hF hH ?_; clear hF hH; rintro rfl rfl)
   refine ⟨AGX, ?_⟩
   refine WN ?_
  all_goals exact wk_of [some 0, some 1, some 2, some 4] (fun _ => [(4, .p 0 0 0), (5, .c (I k)), (6, .c (.r w1 (cR l1))), (7, .p 1 0 0), (9, .c (.r w2 (cR l2))), (10, .p 2 0 0), (12, .p 3 0 0), (13, .c (I 0))]) (fun _ => [celB vc c, celB v1 D1, celB v2 D2, celB vu D1]) (by decide) (ZNL hE) ZCF ZCH (fun _ => ⟨_, rfl, rfl⟩)
 rintro F H ⟨vu, rfl, rfl⟩
 refine ZZ ?_
 refine aw_cut (fun F H => ∃ vb, F = [(4, .p 0 0 0), (6, .c (.r w1 (cR l1))), (7, .p 1 0 0), (12, .p 2 0 0), (13, .c (I 0)), (14, .p 3 0 0), (15, .c (I 0))] ∧ H = [celB vc c, celB v1 D1, celB vu D1, celB vb ⟨c.st, 0, 0, []⟩]) ?_ ?_ wk_aw
 ·refine ZZ ?_
  refine aw_regionM [[(0, none), (1, none), (2, none), (3, none), (4, none), (5, some []), (6, none), (7, none), (8, none), (9, some [0, 1, 2, 3, 4, 6, 7, 8]), (10, some [8]), (11, none)], [(0, none), (1, none), (2, none), (3, none), (4, none), (9, some [0, 1, 2, 3, 4]), (5, some []), (6, none), (7, none), (8, none), (10, some [8]), (11, none)]] hMixed (by kernel_rfl) ?_
  focus
   refine WM ?_
   refine am_two (by rfl) (by rfl) (by rfl) ?_ ?_
   rotate_left
   refine WM ?_
   refine am_ef (i := 5) (by rfl) (by rfl) rfl rfl (ef_call0 false (fun _ => hcb _) rfl .fn rfl (by decide) (by kernel_rfl) rfl (fun _ => C0 rfl) (by simp)) ?_
   rintro _ _ ⟨_, _, _, ⟨vb, rfl, rfl⟩, hF, hH⟩
   (refine NST hF hH ?_; clear hF hH; rintro rfl rfl)
   refine ⟨AGX, ?_⟩
   refine WN ?_
   rotate_right
   refine am_ef (i := 5) (by rfl) (by rfl) rfl rfl (ef_call0 false (fun _ => hcb _) rfl .fn rfl (by decide) (by kernel_rfl) rfl (fun _ => C0 rfl) (by simp)) ?_
   rintro _ _ ⟨_, _, _, ⟨vb, rfl, rfl⟩, hF, hH⟩
   (refine NST hF hH ?_; clear hF hH; rintro rfl rfl)
   refine ⟨AGX, ?_⟩
   refine WN ?_
  all_goals exact wk_of [some 0, some 1, some 3, some 4] (fun _ => [(4, .p 0 0 0), (6, .c (.r w1 (cR l1))), (7, .p 1 0 0), (12, .p 2 0 0), (13, .c (I 0)), (14, .p 3 0 0), (15, .c (I 0))]) (fun _ => [celB vc c, celB v1 D1, celB vu D1, celB vb ⟨c.st, 0, 0, []⟩]) (by decide) (ZNL hE) ZCF ZCH (fun _ => ⟨_, rfl, rfl⟩)
 rintro F H ⟨vb, rfl, rfl⟩
 refine ZZ ?_
 refine WA ?_
 refine WA ?_
 refine aw_loopw (fun m F H => ∃ (j : Nat) (va : Value), m + j = k ∧ F = [(4, .p 0 0 0), (7, .p 1 0 0), (12, .p 2 0 0), (13, .c (I 0)), (14, .p 3 0 0), (15, .c (I 0)), (16, .p 4 0 0), (88, .c (.r w1 (cR l1))), (89, .c (I (cR l1).length)), (90, .c (I j))] ∧ H = [celB vc c, celB v1 D1, celB vu D1, celB vb ⟨c.st, 0, 0, []⟩, celB va (U j)]) ?_ ?_
 ·refine wk_of [some 0, some 1, some 2, some 3, some 4] (fun _ => [(4, .p 0 0 0), (7, .p 1 0 0), (12, .p 2 0 0), (13, .c (I 0)), (14, .p 3 0 0), (15, .c (I 0)), (16, .p 4 0 0), (88, .c (.r w1 (cR l1))), (89, .c (I (cR l1).length)), (90, .c (I (0 : Nat)))]) (fun _ => [celB vc c, celB v1 D1, celB vu D1, celB vb ⟨c.st, 0, 0, []⟩, celB v1 D1]) (by decide) (ZNL hE) ZCF ZCH (fun _ => ?_)
  exact ⟨k, 0, v1, by omega, rfl, by rw [hu0]⟩
 rintro m F H ⟨j, va, hj, rfl, rfl⟩
 refine WA ?_
 refine aw_if rfl (fun hlt => ?_) (fun hge => ?_)
 ·obtain ⟨⟨wj, cj⟩, hlj⟩ : ∃ e, l1[j]? = some e := ⟨_, List.getElem?_eq_getElem (by omega)⟩
  have hrj : (cR l1)[j]? = some (celR wj cj) := by rw [List.getElem?_map, hlj]; rfl
  have hcw : cj = walC c j := by
   have := hwk j
   rw [hlj, if_pos (by omega)] at this
   simpa using this
  have hun3 := hcj va j (wj, cj) (List.mem_of_getElem? hlj) hcw
  refine WA ?_
  refine WR ?_
  refine al_ef rfl (ef_call0 false (fun _ => hun3) rfl .fn rfl (by decide) (by kernel_rfl) rfl (fun _ => C0 rfl) (by simp)) ?_
  rintro _ _ ⟨_, _, _, ⟨va2, rfl, rfl⟩, hF, hH⟩
  (refine NST hF hH ?_; clear hF hH; rintro rfl rfl)
  refine WE ?_
  refine WA ?_
  refine aw_cond_f rfl ?_
  refine ZZ ?_
  refine WA ?_
  refine WA ?_
  refine wk_of [some 0, some 1, some 2, some 3, some 4] (fun _ => [(4, .p 0 0 0), (7, .p 1 0 0), (12, .p 2 0 0), (13, .c (I 0)), (14, .p 3 0 0), (15, .c (I 0)), (16, .p 4 0 0), (88, .c (.r w1 (cR l1))), (89, .c (I (cR l1).length)), (90, .c (I (j + 1 : Nat)))]) (fun _ => [celB vc c, celB v1 D1, celB vu D1, celB vb ⟨c.st, 0, 0, []⟩, celB va2 (U (j + 1))]) (by decide) (ZNL hE) ZCF ZCH (fun _ => ?_)
  exact ⟨m - 1, by omega, j + 1, va2, by omega, rfl, rfl⟩
 obtain rfl : j = k := by omega
 rw [hupn]
 have hsl1 : D1.rows.length ≤ 1000000000 := by have := hsr1.h; omega
 refine ZZ ?_
 refine WR ?_
 refine al_ef rfl (ef_call0 true (fun g => kerrs_v [0, 0] (g (.o _ 0 2 2)) (by simp)) rfl .fn rfl (by decide) (by kernel_rfl) rfl (fun _ => .cons (.frz rfl rfl rfl rfl rfl) .nil) (fun _ _ _ _ ⟨hu, hH⟩ => by rw [hu, hH]; exact ⟨.c (.inl trivial), by simp⟩)) ?_
 rintro _ _ ⟨_, _, _, ⟨rfl, rfl⟩, hF, hH⟩
 rw [h00] at hF
 (refine NST hF hH ?_; clear hF hH; rintro rfl rfl)
 refine WO ?_
 refine G1 rfl ?_
 refine al_ef rfl (ef_call0 false (fun _ => samec_v vu v1 D1 hsl1) rfl .fn rfl (by decide) (by kernel_rfl) rfl (fun _ => C0 rfl) (by simp)) ?_
 rintro _ _ ⟨_, _, _, ⟨rfl, rfl⟩, hF, hH⟩
 (refine NST hF hH ?_; clear hF hH; rintro rfl rfl)
 refine WO ?_
 refine G1 rfl ?_
 refine al_ef rfl (ef_call0 false (fun _ => samec_v va vc c hcl) rfl .fn rfl (by decide) (by kernel_rfl) rfl (fun _ => C0 rfl) (by simp)) ?_
 rintro _ _ ⟨_, _, _, ⟨rfl, rfl⟩, hF, hH⟩
 (refine NST hF hH ?_; clear hF hH; rintro rfl rfl)
 refine WO ?_
 refine G1 rfl ?_
 refine al_ef rfl (ef_call0 false (fun _ => ready_a) rfl .fn rfl (by decide) (by kernel_rfl) rfl (fun _ => C0 rfl) (by simp)) ?_
 rintro _ _ ⟨_, _, _, ⟨rfl, rfl⟩, hF, hH⟩
 (refine NST hF hH ?_; clear hF hH; rintro rfl rfl)
 refine WE ?_
 exact aret_1 [] [] rfl rfl rfl (by decide) (ZNK rfl) (fun _ => .nil) rfl
end Go.Proofs.YtniolldgidgffaaGreatDoor
