/- Whether speeds are kept, of the program and of its document, by value. -/
import Derived.Test.YtdmeohgojdfmoaaGreatDoorMi
import Derived.Test.YtdmeohgojdfmoaaGreatDoorNp
set_option linter.unusedSimpArgs false
set_option linter.unusedVariables false
namespace Go.Proofs.YtdmeohgojdfmoaaGreatDoor
open Go Go.RowKit
set_option maxRecDepth 100000
theorem kept_a (l : List Leg) (cs q : List Int) (ch : Int) (v w vq : Value) (hr : Right l cs) (hc : 1 ≤ ch ∧ ch ≤ 10000000) (hq : q.length = l.length + 1) : ACalls Tryz.prog 86 [.c (legs_r v l), .c (ints_r w cs), .c (ints_r vq q), .c (I ch)] [] fun u H => ∃ b : Bool, u = .c (B b) ∧ H = [] ∧ (b = true ↔ KeptP l cs q ch) := by
  have e1 : (l.map Leg.row).length = l.length := by simp
  have e2 : (cs.map fun z => [I z]).length = cs.length := by simp
  have e3 : (q.map fun z => [I z]).length = q.length := by simp
  have n1 := hr.ne
  have n2 := hr.le
  have n3 := hr.len
  have c0 := capL_zero l cs
  have cn := capL_last l cs
  have g0 := get_getD (q := q) (k := 0) (by omega)
  have gn := get_getD (q := q) (k := l.length) (by omega)
  have r0 : (q.map fun z => [I z])[0]? = some [I (q.getD 0 0)] := by rw [List.getElem?_map, g0]; rfl
  have rn : (q.map fun z => [I z])[(l.map Leg.row).length]? = some [I (q.getD l.length 0)] := by rw [e1, List.getElem?_map, gn]; rfl
  refine acalls_of (N := 103) Tryz.func86 rfl rfl (by simp) fun E hE => ?_
  refine WA ?_
  refine WA ?_
  by_cases z0 : q.getD 0 0 = 0
  · by_cases zn : q.getD l.length 0 = 0
    · refine WA ?_
      refine aw_cond_f rfl ?_
      refine ZZ ?_
      refine WA ?_
      refine aw_loopw (fun m F H => ∃ (k : Nat), m + k = l.length + 1 ∧ (∀ i, i < k → 0 ≤ q.getD i 0 ∧ q.getD i 0 ≤ capL l cs i) ∧ F = [(0, .c (legs_r v l)), (1, .c (ints_r w cs)), (2, .c (ints_r vq q)), (3, .c (I ch)), (9, .c (I (l.map Leg.row).length)), (27, .c (ints_r vq q)), (28, .c (I (q.map fun z => [I z]).length)), (29, .c (I k))] ∧ H = []) ?_ ?_
      · refine wk_of [] (fun _ => [(0, .c (legs_r v l)), (1, .c (ints_r w cs)), (2, .c (ints_r vq q)), (3, .c (I ch)), (9, .c (I (l.map Leg.row).length)), (27, .c (ints_r vq q)), (28, .c (I (q.map fun z => [I z]).length)), (29, .c (I (0 : Nat)))]) (fun _ => _) (by decide) (ZNL hE) ZCF (fun _ => .nil) (fun _ => ?_)
        exact ⟨l.length + 1, 0, by omega, fun i hi => absurd hi (Nat.not_lt_zero _), rfl, rfl⟩
      rintro m F H ⟨k, hk, hfst, rfl, rfl⟩
      refine WA ?_
      refine aw_if rfl (fun hlt => ?_) (fun hge => ?_)
      · have ga := get_getD (q := q) (k := k) (by omega)
        have r4 : (q.map fun z => [I z])[k]? = some [I (q.getD k 0)] := by rw [List.getElem?_map, ga]; rfl
        refine WA ?_
        by_cases hk0 : k = 0
        · refine WA ?_
          refine aw_cond_t rfl ?_
          refine ZZ ?_
          refine WA ?_
          refine wk_of [] (fun _ => [(0, .c (legs_r v l)), (1, .c (ints_r w cs)), (2, .c (ints_r vq q)), (3, .c (I ch)), (9, .c (I (l.map Leg.row).length)), (27, .c (ints_r vq q)), (28, .c (I (q.map fun z => [I z]).length)), (29, .c (I (k + 1 : Nat)))]) (fun _ => _) (by decide) (ZNL hE) ZCF (fun _ => .nil) (fun _ => ?_)
          exact ⟨m - 1, by omega, k + 1, by omega, fun i hi => by
            by_cases hik : i = k
            · subst hik; rw [hk0, z0, c0]; omega
            · exact hfst i (by omega), rfl, rfl⟩
        by_cases hkn : k = l.length
        · refine WA ?_
          refine aw_cond_t rfl ?_
          refine ZZ ?_
          refine WA ?_
          refine wk_of [] (fun _ => [(0, .c (legs_r v l)), (1, .c (ints_r w cs)), (2, .c (ints_r vq q)), (3, .c (I ch)), (9, .c (I (l.map Leg.row).length)), (27, .c (ints_r vq q)), (28, .c (I (q.map fun z => [I z]).length)), (29, .c (I (k + 1 : Nat)))]) (fun _ => _) (by decide) (ZNL hE) ZCF (fun _ => .nil) (fun _ => ?_)
          exact ⟨m - 1, by omega, k + 1, by omega, fun i hi => by
            by_cases hik : i = k
            · subst hik; rw [hkn, zn, cn]; omega
            · exact hfst i (by omega), rfl, rfl⟩
        obtain ⟨j, rfl⟩ : ∃ j, k = j + 1 := ⟨k - 1, by omega⟩
        obtain ⟨x, hx⟩ : ∃ x, l[j]? = some x := ⟨_, List.getElem?_eq_getElem (by omega)⟩
        obtain ⟨y, hy⟩ : ∃ x, l[j + 1]? = some x := ⟨_, List.getElem?_eq_getElem (by omega)⟩
        obtain ⟨c, hcc⟩ : ∃ x, cs[j]? = some x := ⟨_, List.getElem?_eq_getElem (by omega)⟩
        have r1 : (l.map Leg.row)[j]? = some [I x.long, I x.limit] := by rw [List.getElem?_map, hx]; rfl
        have r2 : (l.map Leg.row)[j + 1]? = some [I y.long, I y.limit] := by rw [List.getElem?_map, hy]; rfl
        have r3 : (cs.map fun z => [I z])[j]? = some [I c] := by rw [List.getElem?_map, hcc]; rfl
        have hcm := capL_mid hx hy hcc
        refine WA ?_
        refine aw_cond_f rfl ?_
        refine ZZ ?_
        by_cases ha : q.getD (j + 1) 0 < 0
        · refine ZZ ?_
          refine aw_regionT [(0, none), (1, none), (2, none), (3, none), (4, none), (5, none), (6, none), (7, none), (8, none), (9, none), (10, none), (11, none), (12, none), (13, none), (14, none), (15, none), (16, none), (17, none), (18, none), (19, none), (20, none), (21, none), (22, none), (23, none)] hMixed (by kernel_rfl) ?_
          iterate 6 refine WX2 ?_
          first | refine ZU rfl (rd_subz (z := (j : Int)) rfl rfl rfl (by omega) (by omega)) ?_ | refine ZV ?_
          iterate 4 refine WX2 ?_
          first | refine ZU rfl (rd_subz (z := (j : Int)) rfl rfl rfl (by omega) (by omega)) ?_ | refine ZV ?_
          refine WQ ?_
          refine aw_cond_t rfl ?_
          refine WA ?_
          exact aret_1 [] _ rfl rfl rfl (by decide) (ZNK rfl) (fun _ => .nil) ⟨false, rfl, rfl, by simp only [Bool.false_eq_true, false_iff]; intro hK; have h2 := hK.1 (j + 1) (by omega); omega⟩
        · refine ZZ ?_
          refine aw_regionT [(0, none), (1, none), (2, none), (3, none), (4, none), (5, none), (6, none), (7, none), (8, none), (9, none), (10, none), (11, none), (12, none), (13, none), (14, none), (15, none), (16, none), (17, none), (18, none), (19, none), (20, none), (21, none), (22, none), (23, none)] hMixed (by kernel_rfl) ?_
          iterate 6 refine WX2 ?_
          first | refine ZU rfl (rd_subz (z := (j : Int)) rfl rfl rfl (by omega) (by omega)) ?_ | refine ZV ?_
          iterate 4 refine WX2 ?_
          first | refine ZU rfl (rd_subz (z := (j : Int)) rfl rfl rfl (by omega) (by omega)) ?_ | refine ZV ?_
          refine WQ ?_
          refine aw_if rfl (fun hgt => ?_) (fun hle => ?_)
          · refine WA ?_
            exact aret_1 [] _ rfl rfl rfl (by decide) (ZNK rfl) (fun _ => .nil) ⟨false, rfl, rfl, by simp only [Bool.false_eq_true, false_iff]; intro hK; have h2 := hK.1 (j + 1) (by omega); rw [hcm] at h2; omega⟩
          · refine ZZ ?_
            refine WA ?_
            refine wk_of [] (fun _ => [(0, .c (legs_r v l)), (1, .c (ints_r w cs)), (2, .c (ints_r vq q)), (3, .c (I ch)), (9, .c (I (l.map Leg.row).length)), (27, .c (ints_r vq q)), (28, .c (I (q.map fun z => [I z]).length)), (29, .c (I ((j + 1) + 1 : Nat)))]) (fun _ => _) (by decide) (ZNL hE) ZCF (fun _ => .nil) (fun _ => ?_)
            exact ⟨m - 1, by omega, (j + 1) + 1, by omega, fun i hi => by
              by_cases hik : i = (j + 1)
              · subst hik; rw [hcm]; omega
              · exact hfst i (by omega), rfl, rfl⟩
      obtain rfl : k = l.length + 1 := by omega
      clear hk hge
      have hfst : ∀ i, i ≤ l.length → 0 ≤ q.getD i 0 ∧ q.getD i 0 ≤ capL l cs i := fun i hi => hfst i (by omega)
      refine ZZ ?_
      refine WA ?_
      refine aw_loopw (fun m F H => ∃ (k : Nat), m + k = l.length ∧ (∀ i, i < k → max (q.getD i 0 * q.getD i 0 - q.getD (i + 1) 0 * q.getD (i + 1) 0) (-(q.getD i 0 * q.getD i 0 - q.getD (i + 1) 0 * q.getD (i + 1) 0)) ≤ disL l ch i) ∧ F = [(2, .c (ints_r vq q)), (3, .c (I ch)), (67, .c (legs_r v l)), (68, .c (I (l.map Leg.row).length)), (69, .c (I k))] ∧ H = []) ?_ ?_
      · refine wk_of [] (fun _ => [(2, .c (ints_r vq q)), (3, .c (I ch)), (67, .c (legs_r v l)), (68, .c (I (l.map Leg.row).length)), (69, .c (I (0 : Nat)))]) (fun _ => _) (by decide) (ZNL hE) ZCF (fun _ => .nil) (fun _ => ?_)
        exact ⟨l.length, 0, by omega, fun i hi => absurd hi (Nat.not_lt_zero _), rfl, rfl⟩
      rintro m F H ⟨k, hk, hsec, rfl, rfl⟩
      refine WA ?_
      refine aw_if rfl (fun hlt => ?_) (fun hge => ?_)
      · obtain ⟨x, hx⟩ : ∃ x, l[k]? = some x := ⟨_, List.getElem?_eq_getElem (by omega)⟩
        have hxg := hr.legs x (List.mem_of_getElem? hx)
        have hd := dis_b hc hxg
        obtain ⟨hx1, hx2, hx3, hx4⟩ := hxg
        have hdl := disL_of (ch := ch) hx
        have r1 : (l.map Leg.row)[k]? = some [I x.long, I x.limit] := by rw [List.getElem?_map, hx]; rfl
        have ca := hfst k (by omega)
        have cb := hfst (k + 1) (by omega)
        have da := (hr.cap k).2
        have db := (hr.cap (k + 1)).2
        have ga := get_getD (q := q) (k := k) (by omega)
        have gb := get_getD (q := q) (k := k + 1) (by omega)
        obtain ⟨a, ha⟩ : ∃ a, q.getD k 0 = a := ⟨_, rfl⟩
        obtain ⟨b, hb⟩ : ∃ a, q.getD (k + 1) 0 = a := ⟨_, rfl⟩
        rw [ha] at ca ga; rw [hb] at cb gb
        have r4 : (q.map fun z => [I z])[k]? = some [I a] := by rw [List.getElem?_map, ga]; rfl
        have r5 : (q.map fun z => [I z])[k + 1]? = some [I b] := by rw [List.getElem?_map, gb]; rfl
        have sa := sq_b (a := a) (by omega) (by omega)
        have sb := sq_b (a := b) (by omega) (by omega)
        refine WA ?_
        refine ZZ ?_
        refine aw_regionT [(0, none), (1, none), (2, none), (3, none), (4, none), (5, none), (6, none), (7, none), (8, none), (9, none), (10, none), (11, none), (12, none), (13, none), (14, none), (15, none), (16, none), (17, none), (18, none), (19, none), (20, none), (22, none), (23, none), (24, none), (25, none), (26, none), (21, some [22, 23, 24, 25, 26]), (27, none)] hMixed (by kernel_rfl) ?_
        iterate 11 refine WX2 ?_
        refine ZT rfl (rd_addz (z := ((k + 1 : Nat) : Int)) rfl rfl rfl (by omega) (by omega)) ?_
        iterate 4 refine WX2 ?_
        refine ZT rfl (rd_addz (z := ((k + 1 : Nat) : Int)) rfl rfl rfl (by omega) (by omega)) ?_
        refine WP ?_
        first | refine at_ef rfl rfl (ef_call0 false (fun _ => abs1_a (a * a - b * b) (by omega)) rfl .fn rfl (by decide) (by kernel_rfl) rfl (fun _ => C0 rfl) (by simp)) ?_
        rintro _ _ ⟨_, _, _, ⟨rfl, rfl⟩, hF, hH⟩
        (try simp only [nsl, Nat.reduceAdd, Nat.reduceLT, Nat.reduceSub] at hF); (try simp only [nsl, Nat.reduceAdd, Nat.reduceLT, Nat.reduceSub] at hH); subst hF; subst hH
        refine ⟨ag_cons (by first | exact ag_rd rfl rfl rfl (rd_move rfl rfl) rfl) (ag_cons (by first | exact ag_rd rfl rfl rfl (Zmul) rfl) (ag_cons (by first | exact ag_rd rfl rfl rfl (ZX (KF (t := 38) (f := 0) rfl rfl)) rfl) (ag_cons (by first | exact ag_rd rfl rfl rfl (ZL (KK (t := 3) rfl)) rfl) (ag_cons (by first | exact ag_rd rfl rfl rfl (Zmul) rfl) (ag_none))))), ?_⟩
        refine WQ ?_
        refine aw_if rfl (fun hgt => ?_) (fun hle => ?_)
        · refine WA ?_
          refine aret_1 [] _ rfl rfl rfl (by decide) (ZNK rfl) (fun _ => .nil) ⟨false, rfl, rfl, by simp only [Bool.false_eq_true, false_iff]; intro hK; have h2 := hK.2 k (by omega); rw [ha, hb, hdl] at h2; exact absurd hgt (Int.not_lt.2 h2)⟩
        · refine ZZ ?_
          refine WA ?_
          refine wk_of [] (fun _ => [(2, .c (ints_r vq q)), (3, .c (I ch)), (67, .c (legs_r v l)), (68, .c (I (l.map Leg.row).length)), (69, .c (I (k + 1 : Nat)))]) (fun _ => _) (by decide) (ZNL hE) ZCF (fun _ => .nil) (fun _ => ?_)
          refine ⟨m - 1, by omega, k + 1, by omega, fun i hi => ?_, rfl, rfl⟩
          by_cases hik : i = k
          · subst hik; rw [ha, hb, hdl]; exact Int.not_lt.1 hle
          · exact hsec i (by omega)
      obtain rfl : k = l.length := by omega
      refine WA ?_
      exact aret_1 [] _ rfl rfl rfl (by decide) (ZNK rfl) (fun _ => .nil) ⟨true, rfl, rfl, by simp only [true_iff]; exact ⟨hfst, hsec⟩⟩
    · refine WA ?_
      refine aw_cond_t rfl ?_
      refine WA ?_
      exact aret_1 [] _ rfl rfl rfl (by decide) (ZNK rfl) (fun _ => .nil) ⟨false, rfl, rfl, by simp only [Bool.false_eq_true, false_iff]; intro hK; have h2 := hK.1 l.length (by omega); rw [cn] at h2; omega⟩
  · refine WA ?_
    refine aw_cond_t rfl ?_
    refine WA ?_
    exact aret_1 [] _ rfl rfl rfl (by decide) (ZNK rfl) (fun _ => .nil) ⟨false, rfl, rfl, by simp only [Bool.false_eq_true, false_iff]; intro hK; have h2 := hK.1 0 (by omega); rw [c0] at h2; omega⟩
end Go.Proofs.YtdmeohgojdfmoaaGreatDoor
