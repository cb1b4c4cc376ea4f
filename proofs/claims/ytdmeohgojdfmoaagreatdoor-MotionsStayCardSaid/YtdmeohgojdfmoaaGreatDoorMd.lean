/- The program's speeds, by value. -/
import Derived.Test.YtdmeohgojdfmoaaGreatDoorMc
set_option linter.unusedSimpArgs false
set_option linter.unusedVariables false
namespace Go.Proofs.YtdmeohgojdfmoaaGreatDoor
open Go Go.RowKit
set_option maxRecDepth 100000
theorem speeds_a (l : List Leg) (cs : List Int) (ch : Int) (v w0 : Value) (hr : Right l cs) (hc : 1 ≤ ch ∧ ch ≤ 10000000) : ACalls Tryz.prog 67 [.c (legs_r v l), .c (ints_r w0 cs), .c (I ch)] [] fun u H => ∃ v', u = .c (ints_r v' (speedsS l cs ch)) ∧ H = [] := by
  have e1 : (l.map Leg.row).length = l.length := by simp
  have e2 : (cs.map fun z => [I z]).length = cs.length := by simp
  have n1 := hr.ne
  have n2 := hr.le
  have n3 := hr.len
  refine acalls_of (N := 79) Tryz.func67 rfl rfl (by simp) fun E hE => ?_
  refine WA ?_
  refine WR ?_
  refine al_ef2 rfl (ef_maken (l := l.length + 1) (c := l.length + 1) rfl rfl (by decide) Tryz.underlying22 (KI (t := 3) rfl) rfl (by simp) rfl (by simp) (by omega) (by omega) (by omega) rfl rfl rfl (by (try simp only [nm, putL, Nat.reduceAdd, cellsOf, cvOf]) <;> rfl) (by (try simp only [nm, putL, Nat.reduceAdd, cellsOf, cvOf]) <;> rfl)) ?_
  refine WE ?_
  refine WA ?_
  refine aw_loopw (fun m F H => ∃ (k : Nat) (w : List Int), m + k + 1 = l.length ∧ MidF l cs ch k w ∧ F = [(0, .c (legs_r v l)), (1, .c (ints_r w0 cs)), (2, .c (I ch)), (7, .o 0 0 (l.length + 1) (l.length + 1)), (8, .c (I (k + 1 : Nat)))] ∧ H = [.arr 3 1 (l.length + 1) (w.map fun z => [I z])]) ?_ ?_
  · refine wk_of [some 0] (fun _ => [(0, .c (legs_r v l)), (1, .c (ints_r w0 cs)), (2, .c (I ch)), (7, .o 0 0 (l.length + 1) (l.length + 1)), (8, .c (I (0 + 1 : Nat)))]) (fun _ => _) (by decide) (ZNL hE) ZCF ZCH (fun _ => ?_)
    exact ⟨l.length - 1, 0, List.replicate (l.length + 1) 0, by omega, midF_zero l cs ch, rfl, by rw [List.map_replicate]⟩
  rintro m F H ⟨k, w, hk, hm, rfl, rfl⟩
  refine WA ?_
  refine aw_if rfl (fun hlt => ?_) (fun hge => ?_)
  · obtain ⟨x, hx⟩ : ∃ x, l[k]? = some x := ⟨_, List.getElem?_eq_getElem (by omega)⟩
    obtain ⟨y, hy⟩ : ∃ x, l[k + 1]? = some x := ⟨_, List.getElem?_eq_getElem (by omega)⟩
    obtain ⟨c, hcc⟩ : ∃ x, cs[k]? = some x := ⟨_, List.getElem?_eq_getElem (by omega)⟩
    have hxg := hr.legs x (List.mem_of_getElem? hx)
    have hf := fwdL_b hr ch k (by omega)
    have r1 : (l.map Leg.row)[k]? = some [I x.long, I x.limit] := by rw [List.getElem?_map, hx]; rfl
    have r2 : (l.map Leg.row)[k + 1]? = some [I y.long, I y.limit] := by rw [List.getElem?_map, hy]; rfl
    have r3 : (cs.map fun z => [I z])[k]? = some [I c] := by rw [List.getElem?_map, hcc]; rfl
    have r4 : (w.map fun z => [I z])[k]? = some [I (fwdL l cs ch k)] := by rw [List.getElem?_map, hm.2 k (by omega), if_pos (Nat.le_refl _)]; rfl
    have r5 : (w.map fun z => [I z])[k + 1]? = some [I 0] := by rw [List.getElem?_map, hm.2 (k + 1) (by omega), if_neg (by omega)]; rfl
    have hfm := fwdL_mid (ch := ch) hx hy hcc
    refine ZZ ?_
    refine aw_regionT [(0, none), (1, none), (2, none), (3, none), (4, none), (5, none), (6, none), (7, none), (8, none), (9, none), (10, none), (11, none), (12, none), (13, none), (14, none), (15, none), (16, none), (17, none), (18, none), (19, none), (20, none), (21, none), (22, none), (23, none), (24, none), (25, none), (26, none), (27, none), (28, none), (29, some [0, 1, 2, 3, 4, 5, 6, 7, 8, 9, 10, 11, 12, 13, 14, 15, 16, 17]), (30, none), (31, none), (32, some [])] hMixed (by kernel_rfl) ?_
    iterate 4 refine WX2 ?_
    refine ZT rfl (rd_subz (z := (k : Int)) rfl rfl rfl (by omega) (by omega)) ?_
    iterate 4 refine WX2 ?_
    refine ZT rfl (rd_subz (z := (k : Int)) rfl rfl rfl (by omega) (by omega)) ?_
    iterate 10 refine WX2 ?_
    refine ZT rfl (rd_subz (z := (k : Int)) rfl rfl rfl (by omega) (by omega)) ?_
    iterate 4 refine WX2 ?_
    refine ZT rfl (rd_subz (z := (k : Int)) rfl rfl rfl (by omega) (by omega)) ?_
    refine WP ?_
    refine at_ef rfl rfl (ef_call0 false (fun _ => reach_a (fwdL l cs ch k) x ch hf.1 hf.2 hxg hc) rfl .fn rfl (by decide) (by kernel_rfl) rfl (fun _ => C0 rfl) (by simp)) ?_
    rintro _ _ ⟨_, _, _, ⟨rfl, rfl⟩, hF, hH⟩
    (try simp only [nsl, Nat.reduceAdd, Nat.reduceLT, Nat.reduceSub] at hF); (try simp only [nsl, Nat.reduceAdd, Nat.reduceLT, Nat.reduceSub] at hH); subst hF; subst hH
    refine ⟨ag_cons (by first | exact ag_rd rfl rfl rfl (rd_move rfl rfl) rfl) (ag_cons (by first | exact ag_rd rfl rfl rfl (rd_move rfl rfl) rfl) (ag_cons (by first | exact ag_rd rfl rfl rfl (rd_move rfl rfl) rfl) (ag_cons (by first | exact ag_rd rfl rfl rfl (rd_move rfl rfl) rfl) (ag_cons (by first | exact ag_rd rfl rfl rfl (rd_subz (z := (k : Int)) rfl rfl rfl (by omega) (by omega)) rfl) (ag_cons (by first | exact ag_rd rfl rfl rfl (ZI (KE (t := 22) rfl)) rfl | exact ag_rd rfl rfl rfl (ZJ (KE (t := 22) rfl)) rfl | exact ag_rd rfl rfl rfl (rd_indexj rfl (KE (t := 22) rfl) rfl rfl rfl (by first | rfl | omega) (by omega) (by omega)) rfl) (ag_cons (by first | exact ag_rd rfl rfl rfl (ZL (KK (t := 3) rfl)) rfl) (ag_cons (by first | exact ag_rd rfl rfl rfl (rd_move rfl rfl) rfl) (ag_cons (by first | exact ag_rd rfl rfl rfl (rd_move rfl rfl) rfl) (ag_cons (by first | exact ag_rd rfl rfl rfl (rd_subz (z := (k : Int)) rfl rfl rfl (by omega) (by omega)) rfl) (ag_cons (by first | exact ag_rd rfl rfl rfl (ZI (KE (t := 26) rfl)) rfl | exact ag_rd rfl rfl rfl (ZJ (KE (t := 26) rfl)) rfl | exact ag_rd rfl rfl rfl (rd_indexj rfl (KE (t := 26) rfl) rfl rfl rfl (by first | rfl | omega) (by omega) (by omega)) rfl) (ag_cons (by first | exact ag_rd rfl rfl rfl (ZX (KF (t := 38) (f := 1) rfl rfl)) rfl) (ag_cons (by first | exact ag_rd rfl rfl rfl (ZL (KK (t := 3) rfl)) rfl) (ag_cons (by first | exact ag_rd rfl rfl rfl (rd_move rfl rfl) rfl) (ag_cons (by first | exact ag_rd rfl rfl rfl (rd_move rfl rfl) rfl) (ag_cons (by first | exact ag_rd rfl rfl rfl (ZI (KE (t := 26) rfl)) rfl | exact ag_rd rfl rfl rfl (ZJ (KE (t := 26) rfl)) rfl | exact ag_rd rfl rfl rfl (rd_indexj rfl (KE (t := 26) rfl) rfl rfl rfl (by first | rfl | omega) (by omega) (by omega)) rfl) (ag_cons (by first | exact ag_rd rfl rfl rfl (ZX (KF (t := 38) (f := 1) rfl rfl)) rfl) (ag_cons (by first | exact ag_rd rfl rfl rfl (ZL (KK (t := 3) rfl)) rfl) (ag_none)))))))))))))))))), ?_⟩
    refine WQ ?_
    refine WA ?_
    refine wk_of [some 0] (fun _ => [(0, .c (legs_r v l)), (1, .c (ints_r w0 cs)), (2, .c (I ch)), (7, .o 0 0 (l.length + 1) (l.length + 1)), (8, .c (I (k + 1 + 1 : Nat)))]) (fun _ => _) (by decide) (ZNL hE) ZCF ZCH (fun _ => ?_)
    exact ⟨m - 1, by omega, k + 1, w.set (k + 1) (fwdL l cs ch (k + 1)), by omega, midF_next hm (by omega), rfl, by rw [hfm, List.map_set, Nat.zero_add]⟩
  refine WA ?_
  have hmb := midB_start hr hm (by omega)
  refine aw_loopw (fun m F H => ∃ (w : List Int), m + 1 ≤ l.length ∧ MidB l cs ch m w ∧ F = [(0, .c (legs_r v l)), (1, .c (ints_r w0 cs)), (2, .c (I ch)), (7, .o 0 0 (l.length + 1) (l.length + 1)), (9, .c (I m))] ∧ H = [.arr 3 1 (l.length + 1) (w.map fun z => [I z])]) ?_ ?_
  · refine wk_of [some 0] (fun _ => [(0, .c (legs_r v l)), (1, .c (ints_r w0 cs)), (2, .c (I ch)), (7, .o 0 0 (l.length + 1) (l.length + 1)), (9, .c (I k))]) (fun _ => _) (by decide) (ZNL hE) ZCF ZCH (fun _ => ?_)
    exact ⟨k, w, by omega, hmb, rfl, rfl⟩
  clear hmb hm
  rintro m F H ⟨w, hk, hm, rfl, rfl⟩
  refine WA ?_
  refine aw_if rfl (fun hlt => ?_) (fun hge => ?_)
  · obtain ⟨k, rfl⟩ : ∃ k, m = k + 1 := ⟨m - 1, by omega⟩
    obtain ⟨x, hx⟩ : ∃ x, l[k + 1]? = some x := ⟨_, List.getElem?_eq_getElem (by omega)⟩
    have hxg := hr.legs x (List.mem_of_getElem? hx)
    have hf := spdL_b hr ch (k + 2) (by omega)
    have r1 : (l.map Leg.row)[k + 1]? = some [I x.long, I x.limit] := by rw [List.getElem?_map, hx]; rfl
    have r4 : (w.map fun z => [I z])[k + 1]? = some [I (fwdL l cs ch (k + 1))] := by rw [List.getElem?_map, hm.2 (k + 1) (by omega), if_neg (by omega)]; rfl
    have r5 : (w.map fun z => [I z])[k + 2]? = some [I (spdL l cs ch (k + 2))] := by rw [List.getElem?_map, hm.2 (k + 2) (by omega), if_pos (by omega)]; rfl
    have hfm := spdL_mid cs (ch := ch) hx
    refine ZZ ?_
    refine aw_regionT [(0, none), (1, none), (2, none), (3, none), (4, none), (5, none), (6, none), (7, none), (8, none), (9, none), (10, none), (11, none), (12, none), (13, none), (14, none), (15, none), (16, some [0, 1, 2, 3, 4, 5]), (17, none), (18, none), (19, some [])] hMixed (by kernel_rfl) ?_
    iterate 8 refine WX2 ?_
    refine ZT rfl (rd_addz (z := ((k + 2 : Nat) : Int)) rfl rfl rfl (by omega) (by omega)) ?_
    refine WP ?_
    refine at_ef rfl rfl (ef_call0 false (fun _ => reach_a (spdL l cs ch (k + 2)) x ch hf.1 hf.2 hxg hc) rfl .fn rfl (by decide) (by kernel_rfl) rfl (fun _ => C0 rfl) (by simp)) ?_
    rintro _ _ ⟨_, _, _, ⟨rfl, rfl⟩, hF, hH⟩
    (try simp only [nsl, Nat.reduceAdd, Nat.reduceLT, Nat.reduceSub] at hF); (try simp only [nsl, Nat.reduceAdd, Nat.reduceLT, Nat.reduceSub] at hH); subst hF; subst hH
    refine ⟨ag_cons (by first | exact ag_rd rfl rfl rfl (rd_move rfl rfl) rfl) (ag_cons (by first | exact ag_rd rfl rfl rfl (rd_move rfl rfl) rfl) (ag_cons (by first | exact ag_rd rfl rfl rfl (rd_move rfl rfl) rfl) (ag_cons (by first | exact ag_rd rfl rfl rfl (rd_move rfl rfl) rfl) (ag_cons (by first | exact ag_rd rfl rfl rfl (ZI (KE (t := 22) rfl)) rfl | exact ag_rd rfl rfl rfl (ZJ (KE (t := 22) rfl)) rfl | exact ag_rd rfl rfl rfl (rd_indexj rfl (KE (t := 22) rfl) rfl rfl rfl (by first | rfl | omega) (by omega) (by omega)) rfl) (ag_cons (by first | exact ag_rd rfl rfl rfl (ZL (KK (t := 3) rfl)) rfl) (ag_none)))))), ?_⟩
    refine WQ ?_
    refine WA ?_
    refine wk_of [some 0] (fun _ => [(0, .c (legs_r v l)), (1, .c (ints_r w0 cs)), (2, .c (I ch)), (7, .o 0 0 (l.length + 1) (l.length + 1)), (9, .c (I k))]) (fun _ => _) (by decide) (ZNL hE) ZCF ZCH (fun _ => ?_)
    exact ⟨k, by omega, w.set (k + 1) (spdL l cs ch (k + 1)), by omega, midB_next hm, rfl, by rw [hfm, List.map_set, Nat.zero_add]⟩
  obtain rfl : m = 0 := by omega
  obtain rfl := midB_end hr hm
  refine WA ?_
  exact aret_f1 [] [] rfl rfl rfl rfl (by rw [List.drop_zero, List.take_of_length_le (by simp [speedsS_len])]) (by simp [speedsS_len]) (by decide) (by decide) (ZNK rfl) (fun _ => .nil) (fun v' => ⟨v', rfl, rfl⟩)
theorem speeds_o (l : List Leg) (cs : List Int) (ch : Int) (v w0 : Value) (hr : Right l cs) (hc : 1 ≤ ch ∧ ch ≤ 10000000) : ACalls Tryz.prog 67 [.c (legs_r v l), .c (ints_r w0 cs), .c (I ch)] [] fun u H => ∃ c : Nat, l.length + 1 ≤ c ∧ u = .o 0 0 (l.length + 1) c ∧ H = [.arr 3 1 c ((speedsS l cs ch).map fun z => [I z])] := by
  have e1 : (l.map Leg.row).length = l.length := by simp
  have e2 : (cs.map fun z => [I z]).length = cs.length := by simp
  have n1 := hr.ne
  have n2 := hr.le
  have n3 := hr.len
  refine acalls_of (N := 79) Tryz.func67 rfl rfl (by simp) fun E hE => ?_
  refine WA ?_
  refine WR ?_
  refine al_ef2 rfl (ef_maken (l := l.length + 1) (c := l.length + 1) rfl rfl (by decide) Tryz.underlying22 (KI (t := 3) rfl) rfl (by simp) rfl (by simp) (by omega) (by omega) (by omega) rfl rfl rfl (by (try simp only [nm, putL, Nat.reduceAdd, cellsOf, cvOf]) <;> rfl) (by (try simp only [nm, putL, Nat.reduceAdd, cellsOf, cvOf]) <;> rfl)) ?_
  refine WE ?_
  refine WA ?_
  refine aw_loopw (fun m F H => ∃ (k : Nat) (w : List Int), m + k + 1 = l.length ∧ MidF l cs ch k w ∧ F = [(0, .c (legs_r v l)), (1, .c (ints_r w0 cs)), (2, .c (I ch)), (7, .o 0 0 (l.length + 1) (l.length + 1)), (8, .c (I (k + 1 : Nat)))] ∧ H = [.arr 3 1 (l.length + 1) (w.map fun z => [I z])]) ?_ ?_
  · refine wk_of [some 0] (fun _ => [(0, .c (legs_r v l)), (1, .c (ints_r w0 cs)), (2, .c (I ch)), (7, .o 0 0 (l.length + 1) (l.length + 1)), (8, .c (I (0 + 1 : Nat)))]) (fun _ => _) (by decide) (ZNL hE) ZCF ZCH (fun _ => ?_)
    exact ⟨l.length - 1, 0, List.replicate (l.length + 1) 0, by omega, midF_zero l cs ch, rfl, by rw [List.map_replicate]⟩
  rintro m F H ⟨k, w, hk, hm, rfl, rfl⟩
  refine WA ?_
  refine aw_if rfl (fun hlt => ?_) (fun hge => ?_)
  · obtain ⟨x, hx⟩ : ∃ x, l[k]? = some x := ⟨_, List.getElem?_eq_getElem (by omega)⟩
    obtain ⟨y, hy⟩ : ∃ x, l[k + 1]? = some x := ⟨_, List.getElem?_eq_getElem (by omega)⟩
    obtain ⟨c, hcc⟩ : ∃ x, cs[k]? = some x := ⟨_, List.getElem?_eq_getElem (by omega)⟩
    have hxg := hr.legs x (List.mem_of_getElem? hx)
    have hf := fwdL_b hr ch k (by omega)
    have r1 : (l.map Leg.row)[k]? = some [I x.long, I x.limit] := by rw [List.getElem?_map, hx]; rfl
    have r2 : (l.map Leg.row)[k + 1]? = some [I y.long, I y.limit] := by rw [List.getElem?_map, hy]; rfl
    have r3 : (cs.map fun z => [I z])[k]? = some [I c] := by rw [List.getElem?_map, hcc]; rfl
    have r4 : (w.map fun z => [I z])[k]? = some [I (fwdL l cs ch k)] := by rw [List.getElem?_map, hm.2 k (by omega), if_pos (Nat.le_refl _)]; rfl
    have r5 : (w.map fun z => [I z])[k + 1]? = some [I 0] := by rw [List.getElem?_map, hm.2 (k + 1) (by omega), if_neg (by omega)]; rfl
    have hfm := fwdL_mid (ch := ch) hx hy hcc
    refine ZZ ?_
    refine aw_regionT [(0, none), (1, none), (2, none), (3, none), (4, none), (5, none), (6, none), (7, none), (8, none), (9, none), (10, none), (11, none), (12, none), (13, none), (14, none), (15, none), (16, none), (17, none), (18, none), (19, none), (20, none), (21, none), (22, none), (23, none), (24, none), (25, none), (26, none), (27, none), (28, none), (29, some [0, 1, 2, 3, 4, 5, 6, 7, 8, 9, 10, 11, 12, 13, 14, 15, 16, 17]), (30, none), (31, none), (32, some [])] hMixed (by kernel_rfl) ?_
    iterate 4 refine WX2 ?_
    refine ZT rfl (rd_subz (z := (k : Int)) rfl rfl rfl (by omega) (by omega)) ?_
    iterate 4 refine WX2 ?_
    refine ZT rfl (rd_subz (z := (k : Int)) rfl rfl rfl (by omega) (by omega)) ?_
    iterate 10 refine WX2 ?_
    refine ZT rfl (rd_subz (z := (k : Int)) rfl rfl rfl (by omega) (by omega)) ?_
    iterate 4 refine WX2 ?_
    refine ZT rfl (rd_subz (z := (k : Int)) rfl rfl rfl (by omega) (by omega)) ?_
    refine WP ?_
    refine at_ef rfl rfl (ef_call0 false (fun _ => reach_a (fwdL l cs ch k) x ch hf.1 hf.2 hxg hc) rfl .fn rfl (by decide) (by kernel_rfl) rfl (fun _ => C0 rfl) (by simp)) ?_
    rintro _ _ ⟨_, _, _, ⟨rfl, rfl⟩, hF, hH⟩
    (try simp only [nsl, Nat.reduceAdd, Nat.reduceLT, Nat.reduceSub] at hF); (try simp only [nsl, Nat.reduceAdd, Nat.reduceLT, Nat.reduceSub] at hH); subst hF; subst hH
    refine ⟨ag_cons (by first | exact ag_rd rfl rfl rfl (rd_move rfl rfl) rfl) (ag_cons (by first | exact ag_rd rfl rfl rfl (rd_move rfl rfl) rfl) (ag_cons (by first | exact ag_rd rfl rfl rfl (rd_move rfl rfl) rfl) (ag_cons (by first | exact ag_rd rfl rfl rfl (rd_move rfl rfl) rfl) (ag_cons (by first | exact ag_rd rfl rfl rfl (rd_subz (z := (k : Int)) rfl rfl rfl (by omega) (by omega)) rfl) (ag_cons (by first | exact ag_rd rfl rfl rfl (ZI (KE (t := 22) rfl)) rfl | exact ag_rd rfl rfl rfl (ZJ (KE (t := 22) rfl)) rfl | exact ag_rd rfl rfl rfl (rd_indexj rfl (KE (t := 22) rfl) rfl rfl rfl (by first | rfl | omega) (by omega) (by omega)) rfl) (ag_cons (by first | exact ag_rd rfl rfl rfl (ZL (KK (t := 3) rfl)) rfl) (ag_cons (by first | exact ag_rd rfl rfl rfl (rd_move rfl rfl) rfl) (ag_cons (by first | exact ag_rd rfl rfl rfl (rd_move rfl rfl) rfl) (ag_cons (by first | exact ag_rd rfl rfl rfl (rd_subz (z := (k : Int)) rfl rfl rfl (by omega) (by omega)) rfl) (ag_cons (by first | exact ag_rd rfl rfl rfl (ZI (KE (t := 26) rfl)) rfl | exact ag_rd rfl rfl rfl (ZJ (KE (t := 26) rfl)) rfl | exact ag_rd rfl rfl rfl (rd_indexj rfl (KE (t := 26) rfl) rfl rfl rfl (by first | rfl | omega) (by omega) (by omega)) rfl) (ag_cons (by first | exact ag_rd rfl rfl rfl (ZX (KF (t := 38) (f := 1) rfl rfl)) rfl) (ag_cons (by first | exact ag_rd rfl rfl rfl (ZL (KK (t := 3) rfl)) rfl) (ag_cons (by first | exact ag_rd rfl rfl rfl (rd_move rfl rfl) rfl) (ag_cons (by first | exact ag_rd rfl rfl rfl (rd_move rfl rfl) rfl) (ag_cons (by first | exact ag_rd rfl rfl rfl (ZI (KE (t := 26) rfl)) rfl | exact ag_rd rfl rfl rfl (ZJ (KE (t := 26) rfl)) rfl | exact ag_rd rfl rfl rfl (rd_indexj rfl (KE (t := 26) rfl) rfl rfl rfl (by first | rfl | omega) (by omega) (by omega)) rfl) (ag_cons (by first | exact ag_rd rfl rfl rfl (ZX (KF (t := 38) (f := 1) rfl rfl)) rfl) (ag_cons (by first | exact ag_rd rfl rfl rfl (ZL (KK (t := 3) rfl)) rfl) (ag_none)))))))))))))))))), ?_⟩
    refine WQ ?_
    refine WA ?_
    refine wk_of [some 0] (fun _ => [(0, .c (legs_r v l)), (1, .c (ints_r w0 cs)), (2, .c (I ch)), (7, .o 0 0 (l.length + 1) (l.length + 1)), (8, .c (I (k + 1 + 1 : Nat)))]) (fun _ => _) (by decide) (ZNL hE) ZCF ZCH (fun _ => ?_)
    exact ⟨m - 1, by omega, k + 1, w.set (k + 1) (fwdL l cs ch (k + 1)), by omega, midF_next hm (by omega), rfl, by rw [hfm, List.map_set, Nat.zero_add]⟩
  refine WA ?_
  have hmb := midB_start hr hm (by omega)
  refine aw_loopw (fun m F H => ∃ (w : List Int), m + 1 ≤ l.length ∧ MidB l cs ch m w ∧ F = [(0, .c (legs_r v l)), (1, .c (ints_r w0 cs)), (2, .c (I ch)), (7, .o 0 0 (l.length + 1) (l.length + 1)), (9, .c (I m))] ∧ H = [.arr 3 1 (l.length + 1) (w.map fun z => [I z])]) ?_ ?_
  · refine wk_of [some 0] (fun _ => [(0, .c (legs_r v l)), (1, .c (ints_r w0 cs)), (2, .c (I ch)), (7, .o 0 0 (l.length + 1) (l.length + 1)), (9, .c (I k))]) (fun _ => _) (by decide) (ZNL hE) ZCF ZCH (fun _ => ?_)
    exact ⟨k, w, by omega, hmb, rfl, rfl⟩
  clear hmb hm
  rintro m F H ⟨w, hk, hm, rfl, rfl⟩
  refine WA ?_
  refine aw_if rfl (fun hlt => ?_) (fun hge => ?_)
  · obtain ⟨k, rfl⟩ : ∃ k, m = k + 1 := ⟨m - 1, by omega⟩
    obtain ⟨x, hx⟩ : ∃ x, l[k + 1]? = some x := ⟨_, List.getElem?_eq_getElem (by omega)⟩
    have hxg := hr.legs x (List.mem_of_getElem? hx)
    have hf := spdL_b hr ch (k + 2) (by omega)
    have r1 : (l.map Leg.row)[k + 1]? = some [I x.long, I x.limit] := by rw [List.getElem?_map, hx]; rfl
    have r4 : (w.map fun z => [I z])[k + 1]? = some [I (fwdL l cs ch (k + 1))] := by rw [List.getElem?_map, hm.2 (k + 1) (by omega), if_neg (by omega)]; rfl
    have r5 : (w.map fun z => [I z])[k + 2]? = some [I (spdL l cs ch (k + 2))] := by rw [List.getElem?_map, hm.2 (k + 2) (by omega), if_pos (by omega)]; rfl
    have hfm := spdL_mid cs (ch := ch) hx
    refine ZZ ?_
    refine aw_regionT [(0, none), (1, none), (2, none), (3, none), (4, none), (5, none), (6, none), (7, none), (8, none), (9, none), (10, none), (11, none), (12, none), (13, none), (14, none), (15, none), (16, some [0, 1, 2, 3, 4, 5]), (17, none), (18, none), (19, some [])] hMixed (by kernel_rfl) ?_
    iterate 8 refine WX2 ?_
    refine ZT rfl (rd_addz (z := ((k + 2 : Nat) : Int)) rfl rfl rfl (by omega) (by omega)) ?_
    refine WP ?_
    refine at_ef rfl rfl (ef_call0 false (fun _ => reach_a (spdL l cs ch (k + 2)) x ch hf.1 hf.2 hxg hc) rfl .fn rfl (by decide) (by kernel_rfl) rfl (fun _ => C0 rfl) (by simp)) ?_
    rintro _ _ ⟨_, _, _, ⟨rfl, rfl⟩, hF, hH⟩
    (try simp only [nsl, Nat.reduceAdd, Nat.reduceLT, Nat.reduceSub] at hF); (try simp only [nsl, Nat.reduceAdd, Nat.reduceLT, Nat.reduceSub] at hH); subst hF; subst hH
    refine ⟨ag_cons (by first | exact ag_rd rfl rfl rfl (rd_move rfl rfl) rfl) (ag_cons (by first | exact ag_rd rfl rfl rfl (rd_move rfl rfl) rfl) (ag_cons (by first | exact ag_rd rfl rfl rfl (rd_move rfl rfl) rfl) (ag_cons (by first | exact ag_rd rfl rfl rfl (rd_move rfl rfl) rfl) (ag_cons (by first | exact ag_rd rfl rfl rfl (ZI (KE (t := 22) rfl)) rfl | exact ag_rd rfl rfl rfl (ZJ (KE (t := 22) rfl)) rfl | exact ag_rd rfl rfl rfl (rd_indexj rfl (KE (t := 22) rfl) rfl rfl rfl (by first | rfl | omega) (by omega) (by omega)) rfl) (ag_cons (by first | exact ag_rd rfl rfl rfl (ZL (KK (t := 3) rfl)) rfl) (ag_none)))))), ?_⟩
    refine WQ ?_
    refine WA ?_
    refine wk_of [some 0] (fun _ => [(0, .c (legs_r v l)), (1, .c (ints_r w0 cs)), (2, .c (I ch)), (7, .o 0 0 (l.length + 1) (l.length + 1)), (9, .c (I k))]) (fun _ => _) (by decide) (ZNL hE) ZCF ZCH (fun _ => ?_)
    exact ⟨k, by omega, w.set (k + 1) (spdL l cs ch (k + 1)), by omega, midB_next hm, rfl, by rw [hfm, List.map_set, Nat.zero_add]⟩
  obtain rfl : m = 0 := by omega
  obtain rfl := midB_end hr hm
  refine WA ?_
  exact aret_o [some 0] (fun _ => [.arr 3 1 (l.length + 1) ((speedsS l cs ch).map fun z => [I z])]) rfl rfl rfl rfl rfl (by decide) (ZNK rfl) ZCH (fun _ => ⟨l.length + 1, Nat.le_refl _, rfl, rfl⟩)
end Go.Proofs.YtdmeohgojdfmoaaGreatDoor
