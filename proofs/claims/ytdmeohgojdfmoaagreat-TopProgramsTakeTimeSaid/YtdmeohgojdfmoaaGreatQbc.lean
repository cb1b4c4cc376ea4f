/- The document's speeds, by value: they are the program's. -/
import Derived.Test.YtdmeohgojdfmoaaGreatQbb
import Derived.Test.YtdmeohgojdfmoaaGreatQay
import Derived.Test.YtdmeohgojdfmoaaGreatQax
set_option linter.unusedSimpArgs false
set_option linter.unusedVariables false
/- The document's fault of Exact, by value. -/
namespace Go.Proofs.YtdmeohgojdfmoaaGreat
open Go Go.RowKit
set_option maxRecDepth 100000
theorem first4_eq (f t : Int) (x : Leg) (ch : Int) : firstK [legsF [x], changeF ch, spanF f 0 x.limit, spanF t 0 x.limit] = if oneF x ch ≠ 0 then oneF x ch else if 0 ≤ f ∧ f ≤ x.limit ∧ 0 ≤ t ∧ t ≤ x.limit then 0 else 1 := by
  have hl : legsF [x] = if legBad x then 1 else 0 := by simp [legsF]
  rw [hl]
  unfold oneF changeF spanF
  simp only [firstK]
  cases legBad x
  · by_cases h1 : 1 ≤ ch ∧ ch ≤ 10000000
    · by_cases h2 : 0 ≤ f ∧ f ≤ x.limit
      · by_cases h3 : 0 ≤ t ∧ t ≤ x.limit
        · simp [h1, h2, h3]
        · have : ¬ (0 ≤ f ∧ f ≤ x.limit ∧ 0 ≤ t ∧ t ≤ x.limit) := fun h => h3 h.2.2
          simp [h1, h2, h3]
      · have : ¬ (0 ≤ f ∧ f ≤ x.limit ∧ 0 ≤ t ∧ t ≤ x.limit) := fun h => h2 ⟨h.1, h.2.1⟩
        rw [if_neg h2, if_neg this]; simp [h1]
    · simp [h1]
  · simp
end Go.Proofs.YtdmeohgojdfmoaaGreat

/- The program's speeds, by value. -/
namespace Go.Proofs.YtdmeohgojdfmoaaGreat
open Go Go.RowKit
set_option maxRecDepth 100000
theorem speeds_a (l : List Leg) (cs : List Int) (ch : Int) (v w0 : Value) (hr : Right l cs) (hc : 1 ≤ ch ∧ ch ≤ 10000000) : ACalls Tryz.prog 38 [.c (legs_r v l), .c (ints_r w0 cs), .c (I ch)] [] fun u H => ∃ v', u = .c (ints_r v' (speedsS l cs ch)) ∧ H = [] := by
  have e1 : (l.map Leg.row).length = l.length := by simp
  have e2 : (cs.map fun z => [I z]).length = cs.length := by simp
  have n1 := hr.ne
  have n2 := hr.le
  have n3 := hr.len
  refine acalls_of (N := 79) Tryz.func38 rfl rfl (by simp) fun E hE => ?_
  refine WA ?_
  refine WR ?_
  refine al_ef2 rfl (ef_maken (l := l.length + 1) (c := l.length + 1) rfl rfl (by decide) Tryz.underlying22 (KI (t := 3) rfl) rfl (by simp) rfl (by simp) (by omega) (by omega) (by omega) rfl rfl rfl (by (try simp only [nm, putL, Nat.reduceAdd, cellsOf, cvOf]) <;> rfl) (by (try simp only [nm, putL, Nat.reduceAdd, cellsOf, cvOf]) <;> rfl)) ?_
  refine WE ?_
  refine WA ?_
  refine aw_loopw (fun m F H => ∃ (k : Nat) (w : List Int), m + k + 1 = l.length ∧ MidF l cs ch k w ∧ F = [(0, .c (legs_r v l)), (1, .c (ints_r w0 cs)), (2, .c (I ch)), (7, .o 0 0 (l.length + 1) (l.length + 1)), (8, .c (I (k + 1 : Nat)))] ∧ H = [.arr 3 1 (l.length + 1) (w.map fun z => [I z])]) ?_ ?_
  · refine wk_of [some 0] (fun _ => [(0, .c (legs_r v l)), (1, .c (ints_r w0 cs)), (2, .c (I ch)), (7, .o 0 0 (l.length + 1) (l.length + 1)), (8, .c (I (0 + 1 : Nat)))]) (fun _ => _) (by decide) (ZNL hE) ZCF ZCH (fun _ => ?_)
    exact ⟨l.length - 1, 0, List.replicate (l.length + 1) 0, by omega, midF_zero l cs ch, rfl, by rw [List.map_replicate]⟩
  rintro m F H ⟨k, w, hk, hm, rfl, rfl⟩
  refine WA ?_
  refine aw_if rfl (fun hlt => ?_) (fun hge => ?_)
  · obtain ⟨x, hx⟩ : ∃ x, l[k]? = some x := ⟨_, List.getElem?_eq_getElem (by omega)⟩
    obtain ⟨y, hy⟩ : ∃ x, l[k + 1]? = some x := ⟨_, List.getElem?_eq_getElem (by omega)⟩
    obtain ⟨c, hcc⟩ : ∃ x, cs[k]? = some x := ⟨_, List.getElem?_eq_getElem (by omega)⟩
    have hxg := hr.legs x (List.mem_of_getElem? hx)
    have hf := fwdL_b hr ch k (by omega)
    have r1 : (l.map Leg.row)[k]? = some [I x.long, I x.limit] := by rw [List.getElem?_map, hx]; rfl
    have r2 : (l.map Leg.row)[k + 1]? = some [I y.long, I y.limit] := by rw [List.getElem?_map, hy]; rfl
    have r3 : (cs.map fun z => [I z])[k]? = some [I c] := by rw [List.getElem?_map, hcc]; rfl
    have r4 : (w.map fun z => [I z])[k]? = some [I (fwdL l cs ch k)] := by rw [List.getElem?_map, hm.2 k (by omega), if_pos (Nat.le_refl _)]; rfl
    have r5 : (w.map fun z => [I z])[k + 1]? = some [I 0] := by rw [List.getElem?_map, hm.2 (k + 1) (by omega), if_neg (by omega)]; rfl
    have hfm := fwdL_mid (ch := ch) hx hy hcc
    refine ZZ ?_
    refine aw_regionT [(0, none), (1, none), (2, none), (3, none), (4, none), (5, none), (6, none), (7, none), (8, none), (9, none), (10, none), (11, none), (12, none), (13, none), (14, none), (15, none), (16, none), (17, none), (18, none), (19, none), (20, none), (21, none), (22, none), (23, none), (24, none), (25, none), (26, none), (27, none), (28, none), (29, some [0, 1, 2, 3, 4, 5, 6, 7, 8, 9, 10, 11, 12, 13, 14, 15, 16, 17]), (30, none), (31, none), (32, some [])] hMixed (by kernel_rfl) ?_
    iterate 4 refine WX2 ?_
    refine ZT rfl (rd_subz (z := (k : Int)) rfl rfl rfl (by omega) (by omega)) ?_
    iterate 4 refine WX2 ?_
    refine ZT rfl (rd_subz (z := (k : Int)) rfl rfl rfl (by omega) (by omega)) ?_
    iterate 10 refine WX2 ?_
    refine ZT rfl (rd_subz (z := (k : Int)) rfl rfl rfl (by omega) (by omega)) ?_
    iterate 4 refine WX2 ?_
    refine ZT rfl (rd_subz (z := (k : Int)) rfl rfl rfl (by omega) (by omega)) ?_
    refine WP ?_
    refine at_ef rfl rfl (ef_call0 false (fun _ => reach_a (fwdL l cs ch k) x ch hf.1 hf.2 hxg hc) rfl .fn rfl (by decide) (by kernel_rfl) rfl (fun _ => C0 rfl) (by simp)) ?_
    rintro _ _ ⟨_, _, _, ⟨rfl, rfl⟩, hF, hH⟩
    (try simp only [nsl, Nat.reduceAdd, Nat.reduceLT, Nat.reduceSub] at hF); (try simp only [nsl, Nat.reduceAdd, Nat.reduceLT, Nat.reduceSub] at hH); subst hF; subst hH
    refine ⟨ag_cons (by first | exact ag_rd rfl rfl rfl (rd_move rfl rfl) rfl) (ag_cons (by first | exact ag_rd rfl rfl rfl (rd_move rfl rfl) rfl) (ag_cons (by first | exact ag_rd rfl rfl rfl (rd_move rfl rfl) rfl) (ag_cons (by first | exact ag_rd rfl rfl rfl (rd_move rfl rfl) rfl) (ag_cons (by first | exact ag_rd rfl rfl rfl (rd_subz (z := (k : Int)) rfl rfl rfl (by omega) (by omega)) rfl) (ag_cons (by first | exact ag_rd rfl rfl rfl (ZI (KE (t := 22) rfl)) rfl | exact ag_rd rfl rfl rfl (ZJ (KE (t := 22) rfl)) rfl | exact ag_rd rfl rfl rfl (rd_indexj rfl (KE (t := 22) rfl) rfl rfl rfl (by first | rfl | omega) (by omega) (by omega)) rfl) (ag_cons (by first | exact ag_rd rfl rfl rfl (ZL (KK (t := 3) rfl)) rfl) (ag_cons (by first | exact ag_rd rfl rfl rfl (rd_move rfl rfl) rfl) (ag_cons (by first | exact ag_rd rfl rfl rfl (rd_move rfl rfl) rfl) (ag_cons (by first | exact ag_rd rfl rfl rfl (rd_subz (z := (k : Int)) rfl rfl rfl (by omega) (by omega)) rfl) (ag_cons (by first | exact ag_rd rfl rfl rfl (ZI (KE (t := 30) rfl)) rfl | exact ag_rd rfl rfl rfl (ZJ (KE (t := 30) rfl)) rfl | exact ag_rd rfl rfl rfl (rd_indexj rfl (KE (t := 30) rfl) rfl rfl rfl (by first | rfl | omega) (by omega) (by omega)) rfl) (ag_cons (by first | exact ag_rd rfl rfl rfl (ZX (KF (t := 45) (f := 1) rfl rfl)) rfl) (ag_cons (by first | exact ag_rd rfl rfl rfl (ZL (KK (t := 3) rfl)) rfl) (ag_cons (by first | exact ag_rd rfl rfl rfl (rd_move rfl rfl) rfl) (ag_cons (by first | exact ag_rd rfl rfl rfl (rd_move rfl rfl) rfl) (ag_cons (by first | exact ag_rd rfl rfl rfl (ZI (KE (t := 30) rfl)) rfl | exact ag_rd rfl rfl rfl (ZJ (KE (t := 30) rfl)) rfl | exact ag_rd rfl rfl rfl (rd_indexj rfl (KE (t := 30) rfl) rfl rfl rfl (by first | rfl | omega) (by omega) (by omega)) rfl) (ag_cons (by first | exact ag_rd rfl rfl rfl (ZX (KF (t := 45) (f := 1) rfl rfl)) rfl) (ag_cons (by first | exact ag_rd rfl rfl rfl (ZL (KK (t := 3) rfl)) rfl) (ag_none)))))))))))))))))), ?_⟩
    refine WQ ?_
    refine WA ?_
    refine wk_of [some 0] (fun _ => [(0, .c (legs_r v l)), (1, .c (ints_r w0 cs)), (2, .c (I ch)), (7, .o 0 0 (l.length + 1) (l.length + 1)), (8, .c (I (k + 1 + 1 : Nat)))]) (fun _ => _) (by decide) (ZNL hE) ZCF ZCH (fun _ => ?_)
    exact ⟨m - 1, by omega, k + 1, w.set (k + 1) (fwdL l cs ch (k + 1)), by omega, midF_next hm (by omega), rfl, by rw [hfm, List.map_set, Nat.zero_add]⟩
  refine WA ?_
  have hmb := midB_start hr hm (by omega)
  refine aw_loopw (fun m F H => ∃ (w : List Int), m + 1 ≤ l.length ∧ MidB l cs ch m w ∧ F = [(0, .c (legs_r v l)), (1, .c (ints_r w0 cs)), (2, .c (I ch)), (7, .o 0 0 (l.length + 1) (l.length + 1)), (9, .c (I m))] ∧ H = [.arr 3 1 (l.length + 1) (w.map fun z => [I z])]) ?_ ?_
  · refine wk_of [some 0] (fun _ => [(0, .c (legs_r v l)), (1, .c (ints_r w0 cs)), (2, .c (I ch)), (7, .o 0 0 (l.length + 1) (l.length + 1)), (9, .c (I k))]) (fun _ => _) (by decide) (ZNL hE) ZCF ZCH (fun _ => ?_)
    exact ⟨k, w, by omega, hmb, rfl, rfl⟩
  clear hmb hm
  rintro m F H ⟨w, hk, hm, rfl, rfl⟩
  refine WA ?_
  refine aw_if rfl (fun hlt => ?_) (fun hge => ?_)
  · obtain ⟨k, rfl⟩ : ∃ k, m = k + 1 := ⟨m - 1, by omega⟩
    obtain ⟨x, hx⟩ : ∃ x, l[k + 1]? = some x := ⟨_, List.getElem?_eq_getElem (by omega)⟩
    have hxg := hr.legs x (List.mem_of_getElem? hx)
    have hf := spdL_b hr ch (k + 2) (by omega)
    have r1 : (l.map Leg.row)[k + 1]? = some [I x.long, I x.limit] := by rw [List.getElem?_map, hx]; rfl
    have r4 : (w.map fun z => [I z])[k + 1]? = some [I (fwdL l cs ch (k + 1))] := by rw [List.getElem?_map, hm.2 (k + 1) (by omega), if_neg (by omega)]; rfl
    have r5 : (w.map fun z => [I z])[k + 2]? = some [I (spdL l cs ch (k + 2))] := by rw [List.getElem?_map, hm.2 (k + 2) (by omega), if_pos (by omega)]; rfl
    have hfm := spdL_mid cs (ch := ch) hx
    refine ZZ ?_
    refine aw_regionT [(0, none), (1, none), (2, none), (3, none), (4, none), (5, none), (6, none), (7, none), (8, none), (9, none), (10, none), (11, none), (12, none), (13, none), (14, none), (15, none), (16, some [0, 1, 2, 3, 4, 5]), (17, none), (18, none), (19, some [])] hMixed (by kernel_rfl) ?_
    iterate 8 refine WX2 ?_
    refine ZT rfl (rd_addz (z := ((k + 2 : Nat) : Int)) rfl rfl rfl (by omega) (by omega)) ?_
    refine WP ?_
    refine at_ef rfl rfl (ef_call0 false (fun _ => reach_a (spdL l cs ch (k + 2)) x ch hf.1 hf.2 hxg hc) rfl .fn rfl (by decide) (by kernel_rfl) rfl (fun _ => C0 rfl) (by simp)) ?_
    rintro _ _ ⟨_, _, _, ⟨rfl, rfl⟩, hF, hH⟩
    (try simp only [nsl, Nat.reduceAdd, Nat.reduceLT, Nat.reduceSub] at hF); (try simp only [nsl, Nat.reduceAdd, Nat.reduceLT, Nat.reduceSub] at hH); subst hF; subst hH
    refine ⟨ag_cons (by first | exact ag_rd rfl rfl rfl (rd_move rfl rfl) rfl) (ag_cons (by first | exact ag_rd rfl rfl rfl (rd_move rfl rfl) rfl) (ag_cons (by first | exact ag_rd rfl rfl rfl (rd_move rfl rfl) rfl) (ag_cons (by first | exact ag_rd rfl rfl rfl (rd_move rfl rfl) rfl) (ag_cons (by first | exact ag_rd rfl rfl rfl (ZI (KE (t := 22) rfl)) rfl | exact ag_rd rfl rfl rfl (ZJ (KE (t := 22) rfl)) rfl | exact ag_rd rfl rfl rfl (rd_indexj rfl (KE (t := 22) rfl) rfl rfl rfl (by first | rfl | omega) (by omega) (by omega)) rfl) (ag_cons (by first | exact ag_rd rfl rfl rfl (ZL (KK (t := 3) rfl)) rfl) (ag_none)))))), ?_⟩
    refine WQ ?_
    refine WA ?_
    refine wk_of [some 0] (fun _ => [(0, .c (legs_r v l)), (1, .c (ints_r w0 cs)), (2, .c (I ch)), (7, .o 0 0 (l.length + 1) (l.length + 1)), (9, .c (I k))]) (fun _ => _) (by decide) (ZNL hE) ZCF ZCH (fun _ => ?_)
    exact ⟨k, by omega, w.set (k + 1) (spdL l cs ch (k + 1)), by omega, midB_next hm, rfl, by rw [hfm, List.map_set, Nat.zero_add]⟩
  obtain rfl : m = 0 := by omega
  obtain rfl := midB_end hr hm
  refine WA ?_
  exact aret_f1 [] [] rfl rfl rfl rfl (by rw [List.drop_zero, List.take_of_length_le (by simp [speedsS_len])]) (by simp [speedsS_len]) (by decide) (by decide) (ZNK rfl) (fun _ => .nil) (fun v' => ⟨v', rfl, rfl⟩)
theorem speeds_o (l : List Leg) (cs : List Int) (ch : Int) (v w0 : Value) (hr : Right l cs) (hc : 1 ≤ ch ∧ ch ≤ 10000000) : ACalls Tryz.prog 38 [.c (legs_r v l), .c (ints_r w0 cs), .c (I ch)] [] fun u H => ∃ c : Nat, l.length + 1 ≤ c ∧ u = .o 0 0 (l.length + 1) c ∧ H = [.arr 3 1 c ((speedsS l cs ch).map fun z => [I z])] := by
  have e1 : (l.map Leg.row).length = l.length := by simp
  have e2 : (cs.map fun z => [I z]).length = cs.length := by simp
  have n1 := hr.ne
  have n2 := hr.le
  have n3 := hr.len
  refine acalls_of (N := 79) Tryz.func38 rfl rfl (by simp) fun E hE => ?_
  refine WA ?_
  refine WR ?_
  refine al_ef2 rfl (ef_maken (l := l.length + 1) (c := l.length + 1) rfl rfl (by decide) Tryz.underlying22 (KI (t := 3) rfl) rfl (by simp) rfl (by simp) (by omega) (by omega) (by omega) rfl rfl rfl (by (try simp only [nm, putL, Nat.reduceAdd, cellsOf, cvOf]) <;> rfl) (by (try simp only [nm, putL, Nat.reduceAdd, cellsOf, cvOf]) <;> rfl)) ?_
  refine WE ?_
  refine WA ?_
  refine aw_loopw (fun m F H => ∃ (k : Nat) (w : List Int), m + k + 1 = l.length ∧ MidF l cs ch k w ∧ F = [(0, .c (legs_r v l)), (1, .c (ints_r w0 cs)), (2, .c (I ch)), (7, .o 0 0 (l.length + 1) (l.length + 1)), (8, .c (I (k + 1 : Nat)))] ∧ H = [.arr 3 1 (l.length + 1) (w.map fun z => [I z])]) ?_ ?_
  · refine wk_of [some 0] (fun _ => [(0, .c (legs_r v l)), (1, .c (ints_r w0 cs)), (2, .c (I ch)), (7, .o 0 0 (l.length + 1) (l.length + 1)), (8, .c (I (0 + 1 : Nat)))]) (fun _ => _) (by decide) (ZNL hE) ZCF ZCH (fun _ => ?_)
    exact ⟨l.length - 1, 0, List.replicate (l.length + 1) 0, by omega, midF_zero l cs ch, rfl, by rw [List.map_replicate]⟩
  rintro m F H ⟨k, w, hk, hm, rfl, rfl⟩
  refine WA ?_
  refine aw_if rfl (fun hlt => ?_) (fun hge => ?_)
  · obtain ⟨x, hx⟩ : ∃ x, l[k]? = some x := ⟨_, List.getElem?_eq_getElem (by omega)⟩
    obtain ⟨y, hy⟩ : ∃ x, l[k + 1]? = some x := ⟨_, List.getElem?_eq_getElem (by omega)⟩
    obtain ⟨c, hcc⟩ : ∃ x, cs[k]? = some x := ⟨_, List.getElem?_eq_getElem (by omega)⟩
    have hxg := hr.legs x (List.mem_of_getElem? hx)
    have hf := fwdL_b hr ch k (by omega)
    have r1 : (l.map Leg.row)[k]? = some [I x.long, I x.limit] := by rw [List.getElem?_map, hx]; rfl
    have r2 : (l.map Leg.row)[k + 1]? = some [I y.long, I y.limit] := by rw [List.getElem?_map, hy]; rfl
    have r3 : (cs.map fun z => [I z])[k]? = some [I c] := by rw [List.getElem?_map, hcc]; rfl
    have r4 : (w.map fun z => [I z])[k]? = some [I (fwdL l cs ch k)] := by rw [List.getElem?_map, hm.2 k (by omega), if_pos (Nat.le_refl _)]; rfl
    have r5 : (w.map fun z => [I z])[k + 1]? = some [I 0] := by rw [List.getElem?_map, hm.2 (k + 1) (by omega), if_neg (by omega)]; rfl
    have hfm := fwdL_mid (ch := ch) hx hy hcc
    refine ZZ ?_
    refine aw_regionT [(0, none), (1, none), (2, none), (3, none), (4, none), (5, none), (6, none), (7, none), (8, none), (9, none), (10, none), (11, none), (12, none), (13, none), (14, none), (15, none), (16, none), (17, none), (18, none), (19, none), (20, none), (21, none), (22, none), (23, none), (24, none), (25, none), (26, none), (27, none), (28, none), (29, some [0, 1, 2, 3, 4, 5, 6, 7, 8, 9, 10, 11, 12, 13, 14, 15, 16, 17]), (30, none), (31, none), (32, some [])] hMixed (by kernel_rfl) ?_
    iterate 4 refine WX2 ?_
    refine ZT rfl (rd_subz (z := (k : Int)) rfl rfl rfl (by omega) (by omega)) ?_
    iterate 4 refine WX2 ?_
    refine ZT rfl (rd_subz (z := (k : Int)) rfl rfl rfl (by omega) (by omega)) ?_
    iterate 10 refine WX2 ?_
    refine ZT rfl (rd_subz (z := (k : Int)) rfl rfl rfl (by omega) (by omega)) ?_
    iterate 4 refine WX2 ?_
    refine ZT rfl (rd_subz (z := (k : Int)) rfl rfl rfl (by omega) (by omega)) ?_
    refine WP ?_
    refine at_ef rfl rfl (ef_call0 false (fun _ => reach_a (fwdL l cs ch k) x ch hf.1 hf.2 hxg hc) rfl .fn rfl (by decide) (by kernel_rfl) rfl (fun _ => C0 rfl) (by simp)) ?_
    rintro _ _ ⟨_, _, _, ⟨rfl, rfl⟩, hF, hH⟩
    (try simp only [nsl, Nat.reduceAdd, Nat.reduceLT, Nat.reduceSub] at hF); (try simp only [nsl, Nat.reduceAdd, Nat.reduceLT, Nat.reduceSub] at hH); subst hF; subst hH
    refine ⟨ag_cons (by first | exact ag_rd rfl rfl rfl (rd_move rfl rfl) rfl) (ag_cons (by first | exact ag_rd rfl rfl rfl (rd_move rfl rfl) rfl) (ag_cons (by first | exact ag_rd rfl rfl rfl (rd_move rfl rfl) rfl) (ag_cons (by first | exact ag_rd rfl rfl rfl (rd_move rfl rfl) rfl) (ag_cons (by first | exact ag_rd rfl rfl rfl (rd_subz (z := (k : Int)) rfl rfl rfl (by omega) (by omega)) rfl) (ag_cons (by first | exact ag_rd rfl rfl rfl (ZI (KE (t := 22) rfl)) rfl | exact ag_rd rfl rfl rfl (ZJ (KE (t := 22) rfl)) rfl | exact ag_rd rfl rfl rfl (rd_indexj rfl (KE (t := 22) rfl) rfl rfl rfl (by first | rfl | omega) (by omega) (by omega)) rfl) (ag_cons (by first | exact ag_rd rfl rfl rfl (ZL (KK (t := 3) rfl)) rfl) (ag_cons (by first | exact ag_rd rfl rfl rfl (rd_move rfl rfl) rfl) (ag_cons (by first | exact ag_rd rfl rfl rfl (rd_move rfl rfl) rfl) (ag_cons (by first | exact ag_rd rfl rfl rfl (rd_subz (z := (k : Int)) rfl rfl rfl (by omega) (by omega)) rfl) (ag_cons (by first | exact ag_rd rfl rfl rfl (ZI (KE (t := 30) rfl)) rfl | exact ag_rd rfl rfl rfl (ZJ (KE (t := 30) rfl)) rfl | exact ag_rd rfl rfl rfl (rd_indexj rfl (KE (t := 30) rfl) rfl rfl rfl (by first | rfl | omega) (by omega) (by omega)) rfl) (ag_cons (by first | exact ag_rd rfl rfl rfl (ZX (KF (t := 45) (f := 1) rfl rfl)) rfl) (ag_cons (by first | exact ag_rd rfl rfl rfl (ZL (KK (t := 3) rfl)) rfl) (ag_cons (by first | exact ag_rd rfl rfl rfl (rd_move rfl rfl) rfl) (ag_cons (by first | exact ag_rd rfl rfl rfl (rd_move rfl rfl) rfl) (ag_cons (by first | exact ag_rd rfl rfl rfl (ZI (KE (t := 30) rfl)) rfl | exact ag_rd rfl rfl rfl (ZJ (KE (t := 30) rfl)) rfl | exact ag_rd rfl rfl rfl (rd_indexj rfl (KE (t := 30) rfl) rfl rfl rfl (by first | rfl | omega) (by omega) (by omega)) rfl) (ag_cons (by first | exact ag_rd rfl rfl rfl (ZX (KF (t := 45) (f := 1) rfl rfl)) rfl) (ag_cons (by first | exact ag_rd rfl rfl rfl (ZL (KK (t := 3) rfl)) rfl) (ag_none)))))))))))))))))), ?_⟩
    refine WQ ?_
    refine WA ?_
    refine wk_of [some 0] (fun _ => [(0, .c (legs_r v l)), (1, .c (ints_r w0 cs)), (2, .c (I ch)), (7, .o 0 0 (l.length + 1) (l.length + 1)), (8, .c (I (k + 1 + 1 : Nat)))]) (fun _ => _) (by decide) (ZNL hE) ZCF ZCH (fun _ => ?_)
    exact ⟨m - 1, by omega, k + 1, w.set (k + 1) (fwdL l cs ch (k + 1)), by omega, midF_next hm (by omega), rfl, by rw [hfm, List.map_set, Nat.zero_add]⟩
  refine WA ?_
  have hmb := midB_start hr hm (by omega)
  refine aw_loopw (fun m F H => ∃ (w : List Int), m + 1 ≤ l.length ∧ MidB l cs ch m w ∧ F = [(0, .c (legs_r v l)), (1, .c (ints_r w0 cs)), (2, .c (I ch)), (7, .o 0 0 (l.length + 1) (l.length + 1)), (9, .c (I m))] ∧ H = [.arr 3 1 (l.length + 1) (w.map fun z => [I z])]) ?_ ?_
  · refine wk_of [some 0] (fun _ => [(0, .c (legs_r v l)), (1, .c (ints_r w0 cs)), (2, .c (I ch)), (7, .o 0 0 (l.length + 1) (l.length + 1)), (9, .c (I k))]) (fun _ => _) (by decide) (ZNL hE) ZCF ZCH (fun _ => ?_)
    exact ⟨k, w, by omega, hmb, rfl, rfl⟩
  clear hmb hm
  rintro m F H ⟨w, hk, hm, rfl, rfl⟩
  refine WA ?_
  refine aw_if rfl (fun hlt => ?_) (fun hge => ?_)
  · obtain ⟨k, rfl⟩ : ∃ k, m = k + 1 := ⟨m - 1, by omega⟩
    obtain ⟨x, hx⟩ : ∃ x, l[k + 1]? = some x := ⟨_, List.getElem?_eq_getElem (by omega)⟩
    have hxg := hr.legs x (List.mem_of_getElem? hx)
    have hf := spdL_b hr ch (k + 2) (by omega)
    have r1 : (l.map Leg.row)[k + 1]? = some [I x.long, I x.limit] := by rw [List.getElem?_map, hx]; rfl
    have r4 : (w.map fun z => [I z])[k + 1]? = some [I (fwdL l cs ch (k + 1))] := by rw [List.getElem?_map, hm.2 (k + 1) (by omega), if_neg (by omega)]; rfl
    have r5 : (w.map fun z => [I z])[k + 2]? = some [I (spdL l cs ch (k + 2))] := by rw [List.getElem?_map, hm.2 (k + 2) (by omega), if_pos (by omega)]; rfl
    have hfm := spdL_mid cs (ch := ch) hx
    refine ZZ ?_
    refine aw_regionT [(0, none), (1, none), (2, none), (3, none), (4, none), (5, none), (6, none), (7, none), (8, none), (9, none), (10, none), (11, none), (12, none), (13, none), (14, none), (15, none), (16, some [0, 1, 2, 3, 4, 5]), (17, none), (18, none), (19, some [])] hMixed (by kernel_rfl) ?_
    iterate 8 refine WX2 ?_
    refine ZT rfl (rd_addz (z := ((k + 2 : Nat) : Int)) rfl rfl rfl (by omega) (by omega)) ?_
    refine WP ?_
    refine at_ef rfl rfl (ef_call0 false (fun _ => reach_a (spdL l cs ch (k + 2)) x ch hf.1 hf.2 hxg hc) rfl .fn rfl (by decide) (by kernel_rfl) rfl (fun _ => C0 rfl) (by simp)) ?_
    rintro _ _ ⟨_, _, _, ⟨rfl, rfl⟩, hF, hH⟩
    (try simp only [nsl, Nat.reduceAdd, Nat.reduceLT, Nat.reduceSub] at hF); (try simp only [nsl, Nat.reduceAdd, Nat.reduceLT, Nat.reduceSub] at hH); subst hF; subst hH
    refine ⟨ag_cons (by first | exact ag_rd rfl rfl rfl (rd_move rfl rfl) rfl) (ag_cons (by first | exact ag_rd rfl rfl rfl (rd_move rfl rfl) rfl) (ag_cons (by first | exact ag_rd rfl rfl rfl (rd_move rfl rfl) rfl) (ag_cons (by first | exact ag_rd rfl rfl rfl (rd_move rfl rfl) rfl) (ag_cons (by first | exact ag_rd rfl rfl rfl (ZI (KE (t := 22) rfl)) rfl | exact ag_rd rfl rfl rfl (ZJ (KE (t := 22) rfl)) rfl | exact ag_rd rfl rfl rfl (rd_indexj rfl (KE (t := 22) rfl) rfl rfl rfl (by first | rfl | omega) (by omega) (by omega)) rfl) (ag_cons (by first | exact ag_rd rfl rfl rfl (ZL (KK (t := 3) rfl)) rfl) (ag_none)))))), ?_⟩
    refine WQ ?_
    refine WA ?_
    refine wk_of [some 0] (fun _ => [(0, .c (legs_r v l)), (1, .c (ints_r w0 cs)), (2, .c (I ch)), (7, .o 0 0 (l.length + 1) (l.length + 1)), (9, .c (I k))]) (fun _ => _) (by decide) (ZNL hE) ZCF ZCH (fun _ => ?_)
    exact ⟨k, by omega, w.set (k + 1) (spdL l cs ch (k + 1)), by omega, midB_next hm, rfl, by rw [hfm, List.map_set, Nat.zero_add]⟩
  obtain rfl : m = 0 := by omega
  obtain rfl := midB_end hr hm
  refine WA ?_
  exact aret_o [some 0] (fun _ => [.arr 3 1 (l.length + 1) ((speedsS l cs ch).map fun z => [I z])]) rfl rfl rfl rfl rfl (by decide) (ZNK rfl) ZCH (fun _ => ⟨l.length + 1, Nat.le_refl _, rfl, rfl⟩)
end Go.Proofs.YtdmeohgojdfmoaaGreat

/- Plain law: speeds that are made less until none is too great are the same. -/
namespace Go.Proofs.YtdmeohgojdfmoaaGreat
def sumN : List Int → Nat
  | [] => 0
  | x :: l => x.toNat + sumN l
theorem sumN_set : ∀ {w : List Int} {j : Nat} {a z : Int}, w[j]? = some a → 0 ≤ z → z < a → sumN (w.set j z) < sumN w
  | [], _, _, _, h, _, _ => by simp at h
  | x :: w, 0, a, z, h, h0, h1 => by
    obtain rfl : x = a := by simpa using h
    simp only [List.set_cons_zero, sumN]; omega
  | x :: w, j + 1, a, z, h, h0, h1 => by
    have := sumN_set (w := w) (j := j) (by simpa using h) h0 h1
    simp only [List.set_cons_succ, sumN]; omega
abbrev Kp (l : List Leg) (cs : List Int) (ch : Int) (u : Nat → Int) : Prop := Keeps l.length (capL l cs) (disL l ch) u
structure Low (l : List Leg) (cs : List Int) (ch : Int) (w : List Int) : Prop where
  len : w.length = l.length + 1
  cap : ∀ j, j ≤ l.length → 0 ≤ w.getD j 0 ∧ w.getD j 0 ≤ capL l cs j
  low : ∀ u, Kp l cs ch u → ∀ j, j ≤ l.length → u j ≤ w.getD j 0
theorem Low.get {l : List Leg} {cs w : List Int} {ch : Int} (h : Low l cs ch w) {j : Nat} (hj : j ≤ l.length) : w[j]? = some (w.getD j 0) := by
  rw [List.getD_eq_getElem?_getD, List.getElem?_eq_getElem (by rw [h.len]; omega)]; rfl
theorem getD_set {w : List Int} {i j : Nat} {z : Int} (hi : i < w.length) : (w.set i z).getD j 0 = if i = j then z else w.getD j 0 := by
  rw [List.getD_eq_getElem?_getD, List.getD_eq_getElem?_getD, List.getElem?_set]
  split
  · first | rfl | (rw [if_pos (by omega)]; rfl)
  · rfl
theorem Low.put {l : List Leg} {cs w : List Int} {ch : Int} (h : Low l cs ch w) {i : Nat} {z : Int} (hi : i ≤ l.length) (h0 : 0 ≤ z) (h1 : z < w.getD i 0) (h2 : ∀ u, Kp l cs ch u → u i ≤ z) : Low l cs ch (w.set i z) ∧ sumN (w.set i z) < sumN w := by
  have hlt : i < w.length := by rw [h.len]; omega
  refine ⟨⟨by rw [List.length_set]; exact h.len, fun j hj => ?_, fun u hu j hj => ?_⟩, sumN_set (h.get hi) h0 h1⟩
  · rw [getD_set hlt]
    have := h.cap j hj
    split
    · rename_i e; subst e; omega
    · exact this
  · rw [getD_set hlt]
    split
    · rename_i e; subst e; exact h2 u hu
    · exact h.low u hu j hj
theorem Low.up {l : List Leg} {cs w : List Int} {ch : Int} (h : Low l cs ch w) {i : Nat} (hi : i < l.length) (hd : 0 ≤ disL l ch i) (h1 : rt (w.getD i 0) (disL l ch i) < w.getD (i + 1) 0) : Low l cs ch (w.set (i + 1) (rt (w.getD i 0) (disL l ch i))) ∧ sumN (w.set (i + 1) (rt (w.getD i 0) (disL l ch i))) < sumN w := by
  refine h.put (by omega) (rt_nn _ _) h1 fun u hu => ?_
  exact Int.le_trans (hu.2 i hi).1 (rt_mono (hu.1 i (by omega)).1 (h.low u hu i (by omega)) hd)
theorem Low.dn {l : List Leg} {cs w : List Int} {ch : Int} (h : Low l cs ch w) {i : Nat} (hi : i < l.length) (hd : 0 ≤ disL l ch i) (h1 : rt (w.getD (i + 1) 0) (disL l ch i) < w.getD i 0) : Low l cs ch (w.set i (rt (w.getD (i + 1) 0) (disL l ch i))) ∧ sumN (w.set i (rt (w.getD (i + 1) 0) (disL l ch i))) < sumN w := by
  refine h.put (by omega) (rt_nn _ _) h1 fun u hu => ?_
  exact Int.le_trans (hu.2 i hi).2 (rt_mono (hu.1 (i + 1) (by omega)).1 (h.low u hu (i + 1) (by omega)) hd)
/-- A round so far: nothing is made less and all is right, or the sum is less. -/
def Rel (l : List Leg) (ch : Int) (w0 : List Int) (i : Nat) (b : Bool) (w : List Int) : Prop :=
  (b = false ∧ w = w0 ∧ ∀ j, j < i → w.getD (j + 1) 0 ≤ rt (w.getD j 0) (disL l ch j) ∧ w.getD j 0 ≤ rt (w.getD (j + 1) 0) (disL l ch j)) ∨ (b = true ∧ sumN w < sumN w0)
def RelM (l : List Leg) (ch : Int) (w0 : List Int) (i : Nat) (b : Bool) (w : List Int) : Prop :=
  (Rel l ch w0 i b w ∧ w.getD (i + 1) 0 ≤ rt (w.getD i 0) (disL l ch i)) ∨ (b = true ∧ sumN w < sumN w0)
theorem Rel.zero (l : List Leg) (ch : Int) (w : List Int) : Rel l ch w 0 false w := .inl ⟨rfl, rfl, fun _ h => absurd h (Nat.not_lt_zero _)⟩
theorem Rel.sum {l : List Leg} {ch : Int} {w0 w : List Int} {i : Nat} {b : Bool} (h : Rel l ch w0 i b w) : sumN w ≤ sumN w0 := by
  rcases h with ⟨_, rfl, _⟩ | ⟨_, h⟩ <;> omega
theorem RelM.sum {l : List Leg} {ch : Int} {w0 w : List Int} {i : Nat} {b : Bool} (h : RelM l ch w0 i b w) : sumN w ≤ sumN w0 := by
  rcases h with ⟨h, _⟩ | ⟨_, h⟩
  · exact h.sum
  · omega
theorem RelM.next {l : List Leg} {ch : Int} {w0 w : List Int} {i : Nat} {b : Bool} (h : RelM l ch w0 i b w) (h1 : w.getD i 0 ≤ rt (w.getD (i + 1) 0) (disL l ch i)) : Rel l ch w0 (i + 1) b w := by
  rcases h with ⟨⟨rfl, rfl, h2⟩ | ⟨rfl, h2⟩, h3⟩ | ⟨rfl, h2⟩
  · refine .inl ⟨rfl, rfl, fun j hj => ?_⟩
    by_cases e : j = i
    · subst e; exact ⟨h3, h1⟩
    · exact h2 j (by omega)
  · exact .inr ⟨rfl, h2⟩
  · exact .inr ⟨rfl, h2⟩
theorem Rel.best {l : List Leg} {cs : List Int} {ch : Int} {w0 w : List Int} (hr : Right l cs) (hc : 1 ≤ ch) (hl : Low l cs ch w) (h : Rel l ch w0 l.length false w) : w = speedsS l cs ch := by
  rcases h with ⟨_, rfl, h2⟩ | ⟨h, _⟩
  · exact speedsS_uniq hr hc hl.len ⟨⟨hl.cap, h2⟩, hl.low⟩
  · cases h
/-- The first list: what corners and limits allow. -/
def MidC (l : List Leg) (cs : List Int) (k : Nat) (w : List Int) : Prop := w.length = l.length + 1 ∧ ∀ j, j ≤ l.length → w[j]? = some (if j ≤ k then capL l cs j else 0)
theorem midC_zero (l : List Leg) (cs : List Int) : MidC l cs 0 (List.replicate (l.length + 1) 0) := by
  refine ⟨by simp, fun j hj => ?_⟩
  rw [List.getElem?_replicate, if_pos (by omega)]
  split
  · obtain rfl : j = 0 := by omega
    rw [capL_zero]
  · rfl
theorem midC_next {l : List Leg} {cs w : List Int} {k : Nat} (h : MidC l cs k w) (hk : k + 1 ≤ l.length) : MidC l cs (k + 1) (w.set (k + 1) (capL l cs (k + 1))) := by
  refine ⟨by rw [List.length_set]; exact h.1, fun j hj => ?_⟩
  rw [List.getElem?_set]
  split
  · rename_i e
    subst e
    rw [if_pos (by rw [h.1]; omega), if_pos (by omega)]
  · rename_i e
    rw [h.2 j hj]
    by_cases hjk : j ≤ k
    · rw [if_pos hjk, if_pos (by omega)]
    · rw [if_neg hjk, if_neg (by omega)]
theorem midC_low {l : List Leg} {cs w : List Int} {ch : Int} {k : Nat} (hr : Right l cs) (h : MidC l cs k w) (hk : k + 1 = l.length) : Low l cs ch w := by
  have hg : ∀ j, j ≤ l.length → w.getD j 0 = capL l cs j := fun j hj => by
    rw [getD_of (h.2 j hj)]
    split
    · rfl
    · obtain rfl : j = l.length := by omega
      exact (capL_last l cs).symm
  exact ⟨h.1, fun j hj => by rw [hg j hj]; exact ⟨(hr.cap j).1, Int.le_refl _⟩, fun u hu j hj => by rw [hg j hj]; exact (hu.1 j hj).2⟩
end Go.Proofs.YtdmeohgojdfmoaaGreat

/- The document's speeds, by value: they are the program's. -/
namespace Go.Proofs.YtdmeohgojdfmoaaGreat
open Go Go.RowKit
set_option maxRecDepth 100000
end Go.Proofs.YtdmeohgojdfmoaaGreat
