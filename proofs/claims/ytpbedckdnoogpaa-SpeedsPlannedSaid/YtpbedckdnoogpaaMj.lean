/- Times of legs, and the document's peaks and times, by value. -/
import Derived.Test.YtpbedckdnoogpaaMh
import Derived.Test.YtpbedckdnoogpaaMi
set_option linter.unusedSimpArgs false
set_option linter.unusedVariables false
namespace Go.Proofs.Ytpbedckdnoogpaa
open Go Go.RowKit
set_option maxRecDepth 100000
theorem neg_ediv (x b : Int) (h2 : 1 ≤ b) : (-x) / b = if 0 < x % b then -(x / b) - 1 else -(x / b) := by
  have hd := Int.mul_ediv_add_emod x b
  have hr0 := Int.emod_nonneg x (show b ≠ 0 by omega)
  have hr1 := Int.emod_lt_of_pos x (show 0 < b by omega)
  split
  · refine ((Int.ediv_emod_unique (a := -x) (r := b - x % b) (show 0 < b by omega)).2 ⟨?_, by omega, by omega⟩).1
    rw [Int.mul_sub, Int.mul_neg]; omega
  · refine ((Int.ediv_emod_unique (a := -x) (r := 0) (show 0 < b by omega)).2 ⟨?_, by omega, by omega⟩).1
    rw [Int.mul_neg]; omega
theorem gcdI_dvd {num den : Int} (h0 : 0 ≤ num) (h1 : 1 ≤ den) : (gcdI num den : Int) ∣ num ∧ (gcdI num den : Int) ∣ den ∧ 0 < (gcdI num den : Int) := by
  obtain ⟨p, rfl⟩ := Int.eq_ofNat_of_zero_le h0
  obtain ⟨q, rfl⟩ := Int.eq_ofNat_of_zero_le (show 0 ≤ den by omega)
  unfold gcdI
  refine ⟨Int.natCast_dvd_natCast.2 (Nat.gcd_dvd_left _ _), Int.natCast_dvd_natCast.2 (Nat.gcd_dvd_right _ _), ?_⟩
  have := Nat.gcd_pos_of_pos_right p (show 0 < q by omega)
  exact Int.natCast_pos.2 this
theorem low_b {num den : Int} (h0 : 0 ≤ num) (h1 : 1 ≤ den) : 0 ≤ num / gcdI num den ∧ num / gcdI num den ≤ num ∧ 1 ≤ den / gcdI num den ∧ den / gcdI num den ≤ den := by
  obtain ⟨hn, hd, hg⟩ := gcdI_dvd h0 h1
  refine ⟨Int.ediv_nonneg h0 (by omega), Int.ediv_le_self _ h0, ?_, Int.ediv_le_self _ (by omega)⟩
  have := Int.ediv_mul_cancel hd
  have h2 : 0 ≤ den / gcdI num den := Int.ediv_nonneg (by omega) (by omega)
  by_cases h3 : den / (gcdI num den : Int) = 0
  · rw [h3] at this; omega
  · omega
theorem ceil_eq {num den : Int} (h0 : 0 ≤ num) (h1 : 1 ≤ den) : -((-(num / gcdI num den)) / (den / gcdI num den)) = ceilF num den := by
  obtain ⟨hn, hd, hg⟩ := gcdI_dvd h0 h1
  have e1 := Int.mul_ediv_cancel' hn
  have e2 := Int.mul_ediv_cancel' hd
  rw [← Int.mul_ediv_mul_of_pos (-(num / gcdI num den)) (den / gcdI num den) hg, Int.mul_neg, e1, e2, neg_ediv num den h1]
  unfold ceilF
  split <;> omega
theorem peaksof_a (l : List Leg) (cs : List Int) (ch : Int) (v w : Value) (hr : Right l cs) (hc : 1 ≤ ch ∧ ch ≤ 10000000) : ACalls Try.prog 36 [.c (legs_r v l), .c (ints_r w cs), .c (I ch)] [] fun u H => ∃ v', u = .c (ints_r v' (peaksS l cs ch)) ∧ H = [] := by
  have e1 : (l.map Leg.row).length = l.length := by simp
  have e2 := speedsS_len l cs ch
  have n2 := hr.le
  refine acalls_of (N := 39) Try.func36 rfl rfl (by simp) fun E hE => ?_
  repeat with_reducible first | refine S1 ?_ | refine S2 ?_ | refine S3 ?_ | refine S4 ?_ | refine S5 ?_ | refine S6 ?_ | refine S7 ?_ | refine S8 ?_ | refine S9 rfl ?_ | refine SA ?_ | refine SB ?_ | refine SC ?_
  refine aw_region ?_
  refine RA rfl rfl (by decide) (rd_assign rfl rfl) ?_
  refine al_nil ?_
  repeat with_reducible first | refine S1 ?_ | refine S2 ?_ | refine S3 ?_ | refine S4 ?_ | refine S5 ?_ | refine S6 ?_ | refine S7 ?_ | refine S8 ?_ | refine S9 rfl ?_ | refine SA ?_ | refine SB ?_ | refine SC ?_
  refine aw_region ?_
  refine RA rfl rfl (by decide) (rd_move rfl rfl) ?_
  refine RA rfl rfl (by decide) (rd_move rfl rfl) ?_
  refine RA rfl rfl (by decide) (rd_move rfl rfl) ?_
  refine al_ef rfl (ef_call0 false (fun _ => speedsof_a l cs ch v w hr hc) rfl .fn rfl (by decide) Tc46 rfl (by intro _g; (repeat first | exact K0 | apply K1 rfl | apply K2 rfl rfl | apply K2 rfl (by simp) | apply K3 | exact L0 | apply L1 | exact V1 rfl | exact V2 rfl | exact V3 rfl rfl | exact V4 | exact V5 rfl | exact V3 rfl (by simp; omega) | exact V1 (by simp; omega) | exact V3 rfl (by simp) | exact V1 (by simp) | exact V6 rfl rfl (by first | rfl | simp) (by simp) rfl | apply V7 | apply V8 | apply V9); fail_if_success focus skip) (by simp)) ?_
  rintro _ _ ⟨_, _, _, ⟨rfl, rfl⟩, hF, hH⟩
  (try simp only [nsl, Nat.reduceAdd, Nat.reduceLT, Nat.reduceSub] at hF); (try simp only [nsl, Nat.reduceAdd, Nat.reduceLT, Nat.reduceSub] at hH); subst hF; subst hH
  refine RA rfl rfl (by decide) (rd_assign rfl rfl) ?_
  refine al_nil ?_
  repeat with_reducible first | refine S1 ?_ | refine S2 ?_ | refine S3 ?_ | refine S4 ?_ | refine S5 ?_ | refine S6 ?_ | refine S7 ?_ | refine S8 ?_ | refine S9 rfl ?_ | refine SA ?_ | refine SB ?_ | refine SC ?_
  refine aw_wk (wk_of (K := fun F H => ∃ vv, F = [(0, .c (legs_r v l)), (2, .c (I ch)), (7, .c (ints_r vv (speedsS l cs ch)))] ∧ H = []) [] (fun g => [(0, .c (legs_r v l)), (2, .c (I ch)), (7, .c (ints_r (g (.o 0 0 (l.length + 1) (l.length + 1))) (speedsS l cs ch)))]) (fun _ => _) (by decide) (by rw [hE]; exact (fun _ hi => absurd hi (Nat.not_lt_zero _))) (fun _g => .cons rfl (.c rfl) (.cons rfl (.c rfl) (.cons rfl (.frz rfl rfl (by rw [List.drop_zero, List.take_of_length_le (by simp [speedsS_len])]) (by simp [speedsS_len]) rfl) .nil))) (by intro _g; (repeat first | exact K0 | apply K1 rfl | apply K2 rfl rfl | apply K2 rfl (by simp) | apply K3 | exact L0 | apply L1 | exact V1 rfl | exact V2 rfl | exact V3 rfl rfl | exact V4 | exact V5 rfl | exact V3 rfl (by simp; omega) | exact V1 (by simp; omega) | exact V3 rfl (by simp) | exact V1 (by simp) | exact V6 rfl rfl (by first | rfl | simp) (by simp) rfl | apply V7 | apply V8 | apply V9); fail_if_success focus skip) (fun g => ⟨_, rfl, rfl⟩)) ?_
  rintro F H ⟨vv, rfl, rfl⟩
  repeat with_reducible first | refine S1 ?_ | refine S2 ?_ | refine S3 ?_ | refine S4 ?_ | refine S5 ?_ | refine S6 ?_ | refine S7 ?_ | refine S8 ?_ | refine S9 rfl ?_ | refine SA ?_ | refine SB ?_ | refine SC ?_
  refine aw_region ?_
  refine RA rfl rfl (by decide) (rd_assign rfl rfl) ?_
  refine al_nil ?_
  repeat with_reducible first | refine S1 ?_ | refine S2 ?_ | refine S3 ?_ | refine S4 ?_ | refine S5 ?_ | refine S6 ?_ | refine S7 ?_ | refine S8 ?_ | refine S9 rfl ?_ | refine SA ?_ | refine SB ?_ | refine SC ?_
  refine aw_region ?_
  refine RA rfl rfl (by decide) (rd_move rfl rfl) ?_
  first | refine RA rfl rfl (by decide) (rd_len rfl Te54 rfl) ?_ | refine RA rfl rfl (by decide) (rd_lenr rfl Te54 rfl) ?_
  refine RA rfl rfl (by decide) (rd_move rfl rfl) ?_
  refine al_nil ?_
  repeat with_reducible first | refine S1 ?_ | refine S2 ?_ | refine S3 ?_ | refine S4 ?_ | refine S5 ?_ | refine S6 ?_ | refine S7 ?_ | refine S8 ?_ | refine S9 rfl ?_ | refine SA ?_ | refine SB ?_ | refine SC ?_
  refine aw_loopw (fun m F H => ∃ (k c : Nat) (p : List Int), m + k = l.length ∧ p = upto (peakL l cs ch) k ∧ F = [(2, .c (I ch)), (7, .c (ints_r vv (speedsS l cs ch))), (8, .o 0 0 p.length c), (15, .c (legs_r v l)), (16, .c (I (l.map Leg.row).length)), (17, .c (I k))] ∧ H = [.arr 3 1 c (p.map fun z => [I z])]) ?_ ?_
  · refine wk_of [none] (fun _ => [(2, .c (I ch)), (7, .c (ints_r vv (speedsS l cs ch))), (8, .o 0 0 ([] : List Int).length 0), (15, .c (legs_r v l)), (16, .c (I (l.map Leg.row).length)), (17, .c (I (0 : Nat)))]) (fun _ => [.arr 3 1 0 (([] : List Int).map fun z => [I z])]) (by decide) (by rw [hE]; first | exact (fun _ hi => absurd hi (Nat.not_lt_zero _)) | exact (fun i hi => by (have hi : i < 1 := hi); (have h0 : i = 0 := (by omega)); (subst h0); rfl)) (by intro _g; (repeat first | exact W0 | apply W1 rfl | exact L0 | apply L1 | exact V1 rfl | exact V2 rfl | exact V3 rfl rfl | exact V4 | exact V5 rfl | exact V3 rfl (by simp; omega) | exact V1 (by simp; omega) | exact V3 rfl (by simp) | exact V1 (by simp) | exact V6 rfl rfl (by first | rfl | simp) (by simp) rfl | apply V7 | apply V8 | apply V9 | refine V1 ?_ | refine V3 rfl ?_); fail_if_success focus skip) (by intro _g; (repeat first | exact K0 | apply K1 rfl | apply K2 rfl rfl | apply K2 rfl (by simp) | apply K3 | exact L0 | apply L1 | exact V1 rfl | exact V2 rfl | exact V3 rfl rfl | exact V4 | exact V5 rfl | exact V3 rfl (by simp; omega) | exact V1 (by simp; omega) | exact V3 rfl (by simp) | exact V1 (by simp) | exact V6 rfl rfl (by first | rfl | simp) (by simp) rfl | apply V7 | apply V8 | apply V9); fail_if_success focus skip) (fun _ => ?_)
    exact ⟨l.length, 0, 0, [], by omega, rfl, rfl, rfl⟩
  rintro m F H ⟨k, c, p, hk, hp, rfl, rfl⟩
  have hpl : p.length = k := by rw [hp, upto_len]
  repeat with_reducible first | refine S1 ?_ | refine S2 ?_ | refine S3 ?_ | refine S4 ?_ | refine S5 ?_ | refine S6 ?_ | refine S7 ?_ | refine S8 ?_ | refine S9 rfl ?_ | refine SA ?_ | refine SB ?_ | refine SC ?_
  refine aw_region ?_
  first | refine RA rfl rfl (by decide) (rd_lss_t rfl rfl rfl (by omega)) ?_ | refine RA rfl rfl (by decide) (rd_lss_f rfl rfl rfl (by omega)) ?_ | refine RA rfl rfl (by decide) (rd_lss rfl rfl rfl) ?_
  refine al_nil ?_
  repeat with_reducible first | refine S1 ?_ | refine S2 ?_ | refine S3 ?_ | refine S4 ?_ | refine S5 ?_ | refine S6 ?_ | refine S7 ?_ | refine S8 ?_ | refine S9 rfl ?_ | refine SA ?_ | refine SB ?_ | refine SC ?_
  refine aw_if rfl (fun hlt => ?_) (fun hge => ?_)
  · obtain ⟨x, hx⟩ : ∃ x, l[k]? = some x := ⟨_, List.getElem?_eq_getElem (by omega)⟩
    have hxd : legD l k = x := getD_of hx
    have hxg := hr.legs x (List.mem_of_getElem? hx)
    have b1 := spdL_b hr ch k (by omega)
    have b2 := spdL_b hr ch (k + 1) (by omega)
    have r1 : (l.map Leg.row)[k]? = some [I x.long, I x.limit] := by rw [List.getElem?_map, hx]; rfl
    have r4 : ((speedsS l cs ch).map fun z => [I z])[k]? = some [I (spdL l cs ch k)] := by rw [List.getElem?_map, speedsS_get (by omega)]; rfl
    have r5 : ((speedsS l cs ch).map fun z => [I z])[k + 1]? = some [I (spdL l cs ch (k + 1))] := by rw [List.getElem?_map, speedsS_get (by omega)]; rfl
    repeat with_reducible first | refine S1 ?_ | refine S2 ?_ | refine S3 ?_ | refine S4 ?_ | refine S5 ?_ | refine S6 ?_ | refine S7 ?_ | refine S8 ?_ | refine S9 rfl ?_ | refine SA ?_ | refine SB ?_ | refine SC ?_
    refine aw_region ?_
    refine RA rfl rfl (by decide) (rd_move rfl rfl) ?_
    first | refine RA rfl rfl (by decide) (rd_index rfl Te54 rfl rfl rfl (by first | rfl | omega) (by omega)) ?_ | refine RA rfl rfl (by decide) (rd_indexq rfl Te54 rfl rfl (by first | rfl | omega) (by assumption) rfl) ?_
    refine RA rfl rfl (by decide) (rd_loadn rfl Tk64 rfl (by first | exact CB rfl | exact CQ | exact CA rfl (by first | assumption | (rw [Nat.zero_add]; assumption))) (by (try simp only [nm, putL, Nat.reduceAdd, cellsOf, cvOf]) <;> rfl) (by simp)) ?_
    refine EA rfl (ef_allocn rfl rfl (by decide) Tz64 rfl rfl (by (try simp only [nm, putL, Nat.reduceAdd, cellsOf, cvOf]) <;> rfl) (by (try simp only [nm, putL, Nat.reduceAdd, cellsOf, cvOf]) <;> rfl)) ?_
    refine RA rfl rfl (by decide) (rd_assign rfl rfl) ?_
    first | refine EA rfl (ef_storen rfl rfl rfl rfl rfl Ts64 rfl (by simp) rfl (by (try simp only [nm, putL, Nat.reduceAdd, cellsOf, cvOf]) <;> rfl) (by (try simp only [nm, putL, Nat.reduceAdd, cellsOf, cvOf]) <;> rfl)) ?_ | refine EA rfl (ef_storern rfl rfl rfl rfl (by first | assumption | (rw [Nat.zero_add]; assumption)) rfl rfl Ts64 rfl (by simp) rfl (by (try simp only [nm, putL, Nat.reduceAdd, cellsOf, cvOf]) <;> rfl) rfl) ?_
    refine al_nil ?_
    repeat with_reducible first | refine S1 ?_ | refine S2 ?_ | refine S3 ?_ | refine S4 ?_ | refine S5 ?_ | refine S6 ?_ | refine S7 ?_ | refine S8 ?_ | refine S9 rfl ?_ | refine SA ?_ | refine SB ?_ | refine SC ?_
    repeat with_reducible first | refine S1 ?_ | refine S2 ?_ | refine S3 ?_ | refine S4 ?_ | refine S5 ?_ | refine S6 ?_ | refine S7 ?_ | refine S8 ?_ | refine S9 rfl ?_ | refine SA ?_ | refine SB ?_ | refine SC ?_
    refine aw_regionT [(0, none), (1, none), (2, none), (3, none), (4, none), (5, none), (6, none), (7, none), (8, none), (9, none), (10, none), (11, none), (12, some [0]), (13, some [0]), (14, some []), (15, none)] hMixed (by kernel_rfl) ?_
    refine RT rfl rfl rfl (by decide) (rd_move rfl rfl) ?_
    refine RT rfl rfl rfl (by decide) (rd_move rfl rfl) ?_
    refine RT rfl rfl rfl (by decide) (rd_move rfl rfl) ?_
    first | refine RT rfl rfl rfl (by decide) (rd_index rfl Te22 rfl rfl rfl (by first | rfl | omega) (by omega)) ?_ | refine RT rfl rfl rfl (by decide) (rd_indexq rfl Te22 rfl rfl (by first | rfl | omega) (by assumption) rfl) ?_
    refine RT rfl rfl rfl (by decide) (rd_loadn1 rfl Tk3 rfl (by first | exact CB rfl | exact CQ | exact CA rfl (by first | assumption | (rw [Nat.zero_add]; assumption))) (by (try simp only [nm, putL, Nat.reduceAdd, cellsOf, cvOf]) <;> rfl)) ?_
    refine RT rfl rfl rfl (by decide) (rd_move rfl rfl) ?_
    refine RT rfl rfl rfl (by decide) (rd_move rfl rfl) ?_
    refine at_rd rfl rfl rfl (by decide) (rd_addz (z := ((k + 1 : Nat) : Int)) rfl rfl rfl (by omega) (by omega)) ?_
    first | refine RT rfl rfl rfl (by decide) (rd_index rfl Te22 rfl rfl rfl (by first | rfl | omega) (by omega)) ?_ | refine RT rfl rfl rfl (by decide) (rd_indexq rfl Te22 rfl rfl (by first | rfl | omega) (by assumption) rfl) ?_
    refine RT rfl rfl rfl (by decide) (rd_loadn1 rfl Tk3 rfl (by first | exact CB rfl | exact CQ | exact CA rfl (by first | assumption | (rw [Nat.zero_add]; assumption))) (by (try simp only [nm, putL, Nat.reduceAdd, cellsOf, cvOf]) <;> rfl)) ?_
    refine RT rfl rfl rfl (by decide) (rd_loadn rfl Tk64 rfl (by first | exact CB rfl | exact CQ | exact CA rfl (by first | assumption | (rw [Nat.zero_add]; assumption))) (by (try simp only [nm, putL, Nat.reduceAdd, cellsOf, cvOf]) <;> rfl) (by simp)) ?_
    refine RT rfl rfl rfl (by decide) (rd_move rfl rfl) ?_
    refine at_ef rfl rfl (ef_call0 false (fun _ => peak2_a (spdL l cs ch k) (spdL l cs ch (k + 1)) x ch b1 b2 hxg hc) rfl .fn rfl (by decide) Tc113 rfl (by intro _g; (repeat first | exact K0 | apply K1 rfl | apply K2 rfl rfl | apply K2 rfl (by simp) | apply K3 | exact L0 | apply L1 | exact V1 rfl | exact V2 rfl | exact V3 rfl rfl | exact V4 | exact V5 rfl | exact V3 rfl (by simp; omega) | exact V1 (by simp; omega) | exact V3 rfl (by simp) | exact V1 (by simp) | exact V6 rfl rfl (by first | rfl | simp) (by simp) rfl | apply V7 | apply V8 | apply V9); fail_if_success focus skip) (by simp)) ?_
    rintro _ _ ⟨_, _, _, ⟨rfl, rfl⟩, hF, hH⟩
    (try simp only [nsl, Nat.reduceAdd, Nat.reduceLT, Nat.reduceSub] at hF); (try simp only [nsl, Nat.reduceAdd, Nat.reduceLT, Nat.reduceSub] at hH); subst hF; subst hH
    refine ⟨ag_cons (by first | exact ag_rd rfl rfl rfl (rd_move rfl rfl) rfl) (ag_none), ?_⟩
    refine at_ef2 rfl rfl (ef_buildSlicen rfl rfl (by decide) Te22 (.cons rfl rfl (.nil _)) rfl Tz3 rfl rfl (by simp) (by simp) (by (try simp only [nm, putL, Nat.reduceAdd, cellsOf, cvOf]) <;> rfl) (by (try simp only [nm, putL, Nat.reduceAdd, cellsOf, cvOf]) <;> rfl)) (ag_cons (by first | exact ag_rd rfl rfl rfl (rd_move rfl rfl) rfl) (ag_none)) ?_
    refine at_ef rfl rfl (ef_appn rfl rfl (by decide) Ta22 rfl rfl (by first | rfl | simp | (simp; omega)) rfl (by first | exact Src.own rfl (by (try simp only [nm, putL, Nat.reduceAdd, cellsOf, cvOf]) <;> rfl) (by first | rfl | simp | (simp; omega)) | exact Src.ro (by simp) (by simp [CV.one, Value.oneCell'])) (by (try simp only [nm, putL, Nat.reduceAdd, cellsOf, cvOf]) <;> rfl) (by omega) (fun _ _ => rfl) (by intro g c2; simp only [List.map_cons, List.map_nil, killO, killV, AV.has, AV.hasL, List.contains_cons, List.contains_nil, Nat.reduceBEq, Bool.or_false, Bool.false_or, Bool.false_eq_true, beq_self_eq_true, if_false, if_true, List.set_cons_zero, List.set_cons_succ, List.nil_append]; rfl)) ?_
    rintro _ _ ⟨_, cc, hcc, rfl, rfl⟩
    refine ⟨ag_none, ?_⟩
    refine RT rfl rfl rfl (by decide) (rd_assign rfl rfl) ?_
    refine at_nil ?_
    repeat with_reducible first | refine S1 ?_ | refine S2 ?_ | refine S3 ?_ | refine S4 ?_ | refine S5 ?_ | refine S6 ?_ | refine S7 ?_ | refine S8 ?_ | refine S9 rfl ?_ | refine SA ?_ | refine SB ?_ | refine SC ?_
    repeat with_reducible first | refine S1 ?_ | refine S2 ?_ | refine S3 ?_ | refine S4 ?_ | refine S5 ?_ | refine S6 ?_ | refine S7 ?_ | refine S8 ?_ | refine S9 rfl ?_ | refine SA ?_ | refine SB ?_ | refine SC ?_
    refine aw_region ?_
    first | refine RA rfl rfl (by decide) (rd_addn rfl rfl rfl (by omega)) ?_ | refine RA rfl rfl (by decide) (rd_add rfl rfl rfl) ?_
    refine RA rfl rfl (by decide) (rd_move rfl rfl) ?_
    refine al_nil ?_
    repeat with_reducible first | refine S1 ?_ | refine S2 ?_ | refine S3 ?_ | refine S4 ?_ | refine S5 ?_ | refine S6 ?_ | refine S7 ?_ | refine S8 ?_ | refine S9 rfl ?_ | refine SA ?_ | refine SB ?_ | refine SC ?_
    refine wk_of [some 0] (fun _ => [(2, .c (I ch)), (7, .c (ints_r vv (speedsS l cs ch))), (8, .o 0 0 (p ++ [peakF (spdL l cs ch k) (spdL l cs ch (k + 1)) x ch]).length cc), (15, .c (legs_r v l)), (16, .c (I (l.map Leg.row).length)), (17, .c (I (k + 1 : Nat)))]) (fun _ => _) (by decide) (by rw [hE]; first | exact (fun _ hi => absurd hi (Nat.not_lt_zero _)) | exact (fun i hi => by (have hi : i < 1 := hi); (have h0 : i = 0 := (by omega)); (subst h0); rfl)) (by intro _g; (repeat first | exact W0 | apply W1 rfl | exact L0 | apply L1 | exact V1 rfl | exact V2 rfl | exact V3 rfl rfl | exact V4 | exact V5 rfl | exact V3 rfl (by simp; omega) | exact V1 (by simp; omega) | exact V3 rfl (by simp) | exact V1 (by simp) | exact V6 rfl rfl (by first | rfl | simp) (by simp) rfl | apply V7 | apply V8 | apply V9 | refine V1 ?_ | refine V3 rfl ?_); fail_if_success focus skip) (by intro _g; (repeat first | exact K0 | apply K1 rfl | apply K2 rfl rfl | apply K2 rfl (by simp) | apply K3 | exact L0 | apply L1 | exact V1 rfl | exact V2 rfl | exact V3 rfl rfl | exact V4 | exact V5 rfl | exact V3 rfl (by simp; omega) | exact V1 (by simp; omega) | exact V3 rfl (by simp) | exact V1 (by simp) | exact V6 rfl rfl (by first | rfl | simp) (by simp) rfl | apply V7 | apply V8 | apply V9); fail_if_success focus skip) (fun _ => ?_)
    exact ⟨m - 1, by omega, k + 1, cc, p ++ [peakF (spdL l cs ch k) (spdL l cs ch (k + 1)) x ch], by omega, by rw [← upto_next, hp, peakL, hxd], rfl, by rw [List.map_append]; rfl⟩
  obtain rfl : k = l.length := by omega
  repeat with_reducible first | refine S1 ?_ | refine S2 ?_ | refine S3 ?_ | refine S4 ?_ | refine S5 ?_ | refine S6 ?_ | refine S7 ?_ | refine S8 ?_ | refine S9 rfl ?_ | refine SA ?_ | refine SB ?_ | refine SC ?_
  repeat with_reducible first | refine S1 ?_ | refine S2 ?_ | refine S3 ?_ | refine S4 ?_ | refine S5 ?_ | refine S6 ?_ | refine S7 ?_ | refine S8 ?_ | refine S9 rfl ?_ | refine SA ?_ | refine SB ?_ | refine SC ?_
  refine aw_region ?_
  refine RA rfl rfl (by decide) (rd_move rfl rfl) ?_
  refine RA rfl rfl (by decide) (rd_assign rfl rfl) ?_
  refine al_nil ?_
  repeat with_reducible first | refine S1 ?_ | refine S2 ?_ | refine S3 ?_ | refine S4 ?_ | refine S5 ?_ | refine S6 ?_ | refine S7 ?_ | refine S8 ?_ | refine S9 rfl ?_ | refine SA ?_ | refine SB ?_ | refine SC ?_
  exact aret_f1 [] [] rfl rfl rfl rfl (by rw [List.drop_zero, List.take_of_length_le (by simp)]) (by simp) (by decide) (by decide) (fun _ hi => absurd hi (Nat.not_lt_zero _)) (by intro _g; (repeat first | exact K0 | apply K1 rfl | apply K2 rfl rfl | apply K2 rfl (by simp) | apply K3 | exact L0 | apply L1 | exact V1 rfl | exact V2 rfl | exact V3 rfl rfl | exact V4 | exact V5 rfl | exact V3 rfl (by simp; omega) | exact V1 (by simp; omega) | exact V3 rfl (by simp) | exact V1 (by simp) | exact V6 rfl rfl (by first | rfl | simp) (by simp) rfl | apply V7 | apply V8 | apply V9); fail_if_success focus skip) (fun v' => ⟨v', by rw [hp]; rfl, rfl⟩)
theorem times_a (l : List Leg) (cs : List Int) (ch : Int) (v w : Value) (hl : l.length ≤ 1000000) (hcl : cs.length ≤ 1000000) : ACalls Try.prog 30 [.c (legs_r v l), .c (ints_r w cs), .c (I ch)] [] fun u H => ∃ v', u = .t [.c (ints_r v' (if faultL l cs ch = 0 then timesS l cs ch else [])), .c (I (faultL l cs ch))] ∧ H = [] := by
  have e1 : (l.map Leg.row).length = l.length := by simp
  refine acalls_of (N := 64) Try.func30 rfl rfl (by simp) fun E hE => ?_
  repeat with_reducible first | refine S1 ?_ | refine S2 ?_ | refine S3 ?_ | refine S4 ?_ | refine S5 ?_ | refine S6 ?_ | refine S7 ?_ | refine S8 ?_ | refine S9 rfl ?_ | refine SA ?_ | refine SB ?_ | refine SC ?_
  refine aw_region ?_
  refine RA rfl rfl (by decide) (rd_assign rfl rfl) ?_
  refine RA rfl rfl (by decide) (rd_assign rfl rfl) ?_
  refine al_nil ?_
  repeat with_reducible first | refine S1 ?_ | refine S2 ?_ | refine S3 ?_ | refine S4 ?_ | refine S5 ?_ | refine S6 ?_ | refine S7 ?_ | refine S8 ?_ | refine S9 rfl ?_ | refine SA ?_ | refine SB ?_ | refine SC ?_
  refine aw_region ?_
  refine RA rfl rfl (by decide) (rd_move rfl rfl) ?_
  refine RA rfl rfl (by decide) (rd_move rfl rfl) ?_
  refine RA rfl rfl (by decide) (rd_move rfl rfl) ?_
  refine al_ef rfl (ef_call0 false (fun _ => fault1_a l cs ch v w (by omega) (by omega)) rfl .fn rfl (by decide) Tc102 rfl (by intro _g; (repeat first | exact K0 | apply K1 rfl | apply K2 rfl rfl | apply K2 rfl (by simp) | apply K3 | exact L0 | apply L1 | exact V1 rfl | exact V2 rfl | exact V3 rfl rfl | exact V4 | exact V5 rfl | exact V3 rfl (by simp; omega) | exact V1 (by simp; omega) | exact V3 rfl (by simp) | exact V1 (by simp) | exact V6 rfl rfl (by first | rfl | simp) (by simp) rfl | apply V7 | apply V8 | apply V9); fail_if_success focus skip) (by simp)) ?_
  rintro _ _ ⟨_, _, _, ⟨rfl, rfl⟩, hF, hH⟩
  (try simp only [nsl, Nat.reduceAdd, Nat.reduceLT, Nat.reduceSub] at hF); (try simp only [nsl, Nat.reduceAdd, Nat.reduceLT, Nat.reduceSub] at hH); subst hF; subst hH
  refine RA rfl rfl (by decide) (rd_assign rfl rfl) ?_
  refine al_nil ?_
  repeat with_reducible first | refine S1 ?_ | refine S2 ?_ | refine S3 ?_ | refine S4 ?_ | refine S5 ?_ | refine S6 ?_ | refine S7 ?_ | refine S8 ?_ | refine S9 rfl ?_ | refine SA ?_ | refine SB ?_ | refine SC ?_
  refine aw_region ?_
  refine RA rfl rfl (by decide) (rd_move rfl rfl) ?_
  first | refine RA rfl rfl (by decide) (rd_neq_t rfl rfl rfl (by omega)) ?_ | refine RA rfl rfl (by decide) (rd_neq_f rfl rfl rfl (by omega)) ?_ | refine RA rfl rfl (by decide) (rd_neq rfl rfl rfl) ?_
  refine al_nil ?_
  repeat with_reducible first | refine S1 ?_ | refine S2 ?_ | refine S3 ?_ | refine S4 ?_ | refine S5 ?_ | refine S6 ?_ | refine S7 ?_ | refine S8 ?_ | refine S9 rfl ?_ | refine SA ?_ | refine SB ?_ | refine SC ?_
  refine aw_if rfl (fun hne => ?_) (fun heq => ?_)
  · repeat with_reducible first | refine S1 ?_ | refine S2 ?_ | refine S3 ?_ | refine S4 ?_ | refine S5 ?_ | refine S6 ?_ | refine S7 ?_ | refine S8 ?_ | refine S9 rfl ?_ | refine SA ?_ | refine SB ?_ | refine SC ?_
    refine aw_region ?_
    refine RA rfl rfl (by decide) (rd_move rfl rfl) ?_
    refine RA rfl rfl (by decide) (rd_assign rfl rfl) ?_
    refine RA rfl rfl (by decide) (rd_assign rfl rfl) ?_
    refine al_nil ?_
    repeat with_reducible first | refine S1 ?_ | refine S2 ?_ | refine S3 ?_ | refine S4 ?_ | refine S5 ?_ | refine S6 ?_ | refine S7 ?_ | refine S8 ?_ | refine S9 rfl ?_ | refine SA ?_ | refine SB ?_ | refine SC ?_
    exact aret_2 [] _ rfl rfl rfl rfl rfl (by decide) (fun _ hi => absurd hi (Nat.not_lt_zero _)) (by intro _g; (repeat first | exact K0 | apply K1 rfl | apply K2 rfl rfl | apply K2 rfl (by simp) | apply K3 | exact L0 | apply L1 | exact V1 rfl | exact V2 rfl | exact V3 rfl rfl | exact V4 | exact V5 rfl | exact V3 rfl (by simp; omega) | exact V1 (by simp; omega) | exact V3 rfl (by simp) | exact V1 (by simp) | exact V6 rfl rfl (by first | rfl | simp) (by simp) rfl | apply V7 | apply V8 | apply V9); fail_if_success focus skip) ⟨_, by rw [if_neg hne]; rfl, rfl⟩
  have h0 : faultL l cs ch = 0 := by omega
  obtain ⟨hr, hc⟩ := faultL_ok h0
  have e2 := speedsS_len l cs ch
  rw [if_pos h0]
  repeat with_reducible first | refine S1 ?_ | refine S2 ?_ | refine S3 ?_ | refine S4 ?_ | refine S5 ?_ | refine S6 ?_ | refine S7 ?_ | refine S8 ?_ | refine S9 rfl ?_ | refine SA ?_ | refine SB ?_ | refine SC ?_
  repeat with_reducible first | refine S1 ?_ | refine S2 ?_ | refine S3 ?_ | refine S4 ?_ | refine S5 ?_ | refine S6 ?_ | refine S7 ?_ | refine S8 ?_ | refine S9 rfl ?_ | refine SA ?_ | refine SB ?_ | refine SC ?_
  refine aw_region ?_
  refine RA rfl rfl (by decide) (rd_move rfl rfl) ?_
  refine RA rfl rfl (by decide) (rd_move rfl rfl) ?_
  refine RA rfl rfl (by decide) (rd_move rfl rfl) ?_
  refine al_ef rfl (ef_call0 false (fun _ => speeds_a l cs ch v w hr hc) rfl .fn rfl (by decide) Tc103 rfl (by intro _g; (repeat first | exact K0 | apply K1 rfl | apply K2 rfl rfl | apply K2 rfl (by simp) | apply K3 | exact L0 | apply L1 | exact V1 rfl | exact V2 rfl | exact V3 rfl rfl | exact V4 | exact V5 rfl | exact V3 rfl (by simp; omega) | exact V1 (by simp; omega) | exact V3 rfl (by simp) | exact V1 (by simp) | exact V6 rfl rfl (by first | rfl | simp) (by simp) rfl | apply V7 | apply V8 | apply V9); fail_if_success focus skip) (by simp)) ?_
  rintro _ _ ⟨_, _, _, ⟨vv, rfl, rfl⟩, hF, hH⟩
  (try simp only [nsl, Nat.reduceAdd, Nat.reduceLT, Nat.reduceSub] at hF); (try simp only [nsl, Nat.reduceAdd, Nat.reduceLT, Nat.reduceSub] at hH); subst hF; subst hH
  refine RA rfl rfl (by decide) (rd_assign rfl rfl) ?_
  refine al_nil ?_
  repeat with_reducible first | refine S1 ?_ | refine S2 ?_ | refine S3 ?_ | refine S4 ?_ | refine S5 ?_ | refine S6 ?_ | refine S7 ?_ | refine S8 ?_ | refine S9 rfl ?_ | refine SA ?_ | refine SB ?_ | refine SC ?_
  refine aw_region ?_
  refine RA rfl rfl (by decide) (rd_assign rfl rfl) ?_
  refine al_nil ?_
  repeat with_reducible first | refine S1 ?_ | refine S2 ?_ | refine S3 ?_ | refine S4 ?_ | refine S5 ?_ | refine S6 ?_ | refine S7 ?_ | refine S8 ?_ | refine S9 rfl ?_ | refine SA ?_ | refine SB ?_ | refine SC ?_
  refine aw_region ?_
  refine RA rfl rfl (by decide) (rd_move rfl rfl) ?_
  first | refine RA rfl rfl (by decide) (rd_len rfl Te54 rfl) ?_ | refine RA rfl rfl (by decide) (rd_lenr rfl Te54 rfl) ?_
  refine RA rfl rfl (by decide) (rd_move rfl rfl) ?_
  refine al_nil ?_
  repeat with_reducible first | refine S1 ?_ | refine S2 ?_ | refine S3 ?_ | refine S4 ?_ | refine S5 ?_ | refine S6 ?_ | refine S7 ?_ | refine S8 ?_ | refine S9 rfl ?_ | refine SA ?_ | refine SB ?_ | refine SC ?_
  refine aw_loopw (fun m F H => ∃ (k c : Nat) (p : List Int), m + k = l.length ∧ p = upto (timeL l cs ch) k ∧ F = [(2, .c (I ch)), (9, .c (ints_r vv (speedsS l cs ch))), (10, .o 0 0 p.length c), (27, .c (legs_r v l)), (28, .c (I (l.map Leg.row).length)), (29, .c (I k))] ∧ H = [.arr 3 1 c (p.map fun z => [I z])]) ?_ ?_
  · refine wk_of [none] (fun _ => [(2, .c (I ch)), (9, .c (ints_r vv (speedsS l cs ch))), (10, .o 0 0 ([] : List Int).length 0), (27, .c (legs_r v l)), (28, .c (I (l.map Leg.row).length)), (29, .c (I (0 : Nat)))]) (fun _ => [.arr 3 1 0 (([] : List Int).map fun z => [I z])]) (by decide) (by rw [hE]; first | exact (fun _ hi => absurd hi (Nat.not_lt_zero _)) | exact (fun i hi => by (have hi : i < 1 := hi); (have h0 : i = 0 := (by omega)); (subst h0); rfl)) (by intro _g; (repeat first | exact W0 | apply W1 rfl | exact L0 | apply L1 | exact V1 rfl | exact V2 rfl | exact V3 rfl rfl | exact V4 | exact V5 rfl | exact V3 rfl (by simp; omega) | exact V1 (by simp; omega) | exact V3 rfl (by simp) | exact V1 (by simp) | exact V6 rfl rfl (by first | rfl | simp) (by simp) rfl | apply V7 | apply V8 | apply V9 | refine V1 ?_ | refine V3 rfl ?_); fail_if_success focus skip) (by intro _g; (repeat first | exact K0 | apply K1 rfl | apply K2 rfl rfl | apply K2 rfl (by simp) | apply K3 | exact L0 | apply L1 | exact V1 rfl | exact V2 rfl | exact V3 rfl rfl | exact V4 | exact V5 rfl | exact V3 rfl (by simp; omega) | exact V1 (by simp; omega) | exact V3 rfl (by simp) | exact V1 (by simp) | exact V6 rfl rfl (by first | rfl | simp) (by simp) rfl | apply V7 | apply V8 | apply V9); fail_if_success focus skip) (fun _ => ?_)
    exact ⟨l.length, 0, 0, [], by omega, rfl, rfl, rfl⟩
  rintro m F H ⟨k, c, p, hk, hp, rfl, rfl⟩
  have hpl : p.length = k := by rw [hp, upto_len]
  have n2 := hr.le
  repeat with_reducible first | refine S1 ?_ | refine S2 ?_ | refine S3 ?_ | refine S4 ?_ | refine S5 ?_ | refine S6 ?_ | refine S7 ?_ | refine S8 ?_ | refine S9 rfl ?_ | refine SA ?_ | refine SB ?_ | refine SC ?_
  refine aw_region ?_
  first | refine RA rfl rfl (by decide) (rd_lss_t rfl rfl rfl (by omega)) ?_ | refine RA rfl rfl (by decide) (rd_lss_f rfl rfl rfl (by omega)) ?_ | refine RA rfl rfl (by decide) (rd_lss rfl rfl rfl) ?_
  refine al_nil ?_
  repeat with_reducible first | refine S1 ?_ | refine S2 ?_ | refine S3 ?_ | refine S4 ?_ | refine S5 ?_ | refine S6 ?_ | refine S7 ?_ | refine S8 ?_ | refine S9 rfl ?_ | refine SA ?_ | refine SB ?_ | refine SC ?_
  refine aw_if rfl (fun hlt => ?_) (fun hge => ?_)
  · obtain ⟨x, hx⟩ : ∃ x, l[k]? = some x := ⟨_, List.getElem?_eq_getElem (by omega)⟩
    have hxd : legD l k = x := getD_of hx
    have hxg := hr.legs x (List.mem_of_getElem? hx)
    have b1 := spdL_b hr ch k (by omega)
    have b2 := spdL_b hr ch (k + 1) (by omega)
    have r1 : (l.map Leg.row)[k]? = some [I x.long, I x.limit] := by rw [List.getElem?_map, hx]; rfl
    have r4 : ((speedsS l cs ch).map fun z => [I z])[k]? = some [I (spdL l cs ch k)] := by rw [List.getElem?_map, speedsS_get (by omega)]; rfl
    have r5 : ((speedsS l cs ch).map fun z => [I z])[k + 1]? = some [I (spdL l cs ch (k + 1))] := by rw [List.getElem?_map, speedsS_get (by omega)]; rfl
    have hb := numF_b b1 b2 hxg hc
    have ht : timeL l cs ch k = ceilF (numF (spdL l cs ch k) (spdL l cs ch (k + 1)) x ch) (denF (spdL l cs ch k) (spdL l cs ch (k + 1)) x ch) := by rw [timeL, hxd]
    repeat with_reducible first | refine S1 ?_ | refine S2 ?_ | refine S3 ?_ | refine S4 ?_ | refine S5 ?_ | refine S6 ?_ | refine S7 ?_ | refine S8 ?_ | refine S9 rfl ?_ | refine SA ?_ | refine SB ?_ | refine SC ?_
    refine aw_region ?_
    refine RA rfl rfl (by decide) (rd_move rfl rfl) ?_
    first | refine RA rfl rfl (by decide) (rd_index rfl Te54 rfl rfl rfl (by first | rfl | omega) (by omega)) ?_ | refine RA rfl rfl (by decide) (rd_indexq rfl Te54 rfl rfl (by first | rfl | omega) (by assumption) rfl) ?_
    refine RA rfl rfl (by decide) (rd_loadn rfl Tk64 rfl (by first | exact CB rfl | exact CQ | exact CA rfl (by first | assumption | (rw [Nat.zero_add]; assumption))) (by (try simp only [nm, putL, Nat.reduceAdd, cellsOf, cvOf]) <;> rfl) (by simp)) ?_
    refine EA rfl (ef_allocn rfl rfl (by decide) Tz64 rfl rfl (by (try simp only [nm, putL, Nat.reduceAdd, cellsOf, cvOf]) <;> rfl) (by (try simp only [nm, putL, Nat.reduceAdd, cellsOf, cvOf]) <;> rfl)) ?_
    refine RA rfl rfl (by decide) (rd_assign rfl rfl) ?_
    first | refine EA rfl (ef_storen rfl rfl rfl rfl rfl Ts64 rfl (by simp) rfl (by (try simp only [nm, putL, Nat.reduceAdd, cellsOf, cvOf]) <;> rfl) (by (try simp only [nm, putL, Nat.reduceAdd, cellsOf, cvOf]) <;> rfl)) ?_ | refine EA rfl (ef_storern rfl rfl rfl rfl (by first | assumption | (rw [Nat.zero_add]; assumption)) rfl rfl Ts64 rfl (by simp) rfl (by (try simp only [nm, putL, Nat.reduceAdd, cellsOf, cvOf]) <;> rfl) rfl) ?_
    refine al_nil ?_
    repeat with_reducible first | refine S1 ?_ | refine S2 ?_ | refine S3 ?_ | refine S4 ?_ | refine S5 ?_ | refine S6 ?_ | refine S7 ?_ | refine S8 ?_ | refine S9 rfl ?_ | refine SA ?_ | refine SB ?_ | refine SC ?_
    repeat with_reducible first | refine S1 ?_ | refine S2 ?_ | refine S3 ?_ | refine S4 ?_ | refine S5 ?_ | refine S6 ?_ | refine S7 ?_ | refine S8 ?_ | refine S9 rfl ?_ | refine SA ?_ | refine SB ?_ | refine SC ?_
    refine aw_regionT [(0, none), (1, none), (2, none), (3, none), (4, none), (5, none), (6, none), (7, none), (8, none), (9, none), (10, none), (11, some []), (12, none), (13, none), (14, none), (15, none), (16, none)] hMixed (by kernel_rfl) ?_
    refine RT rfl rfl rfl (by decide) (rd_move rfl rfl) ?_
    refine RT rfl rfl rfl (by decide) (rd_move rfl rfl) ?_
    first | refine RT rfl rfl rfl (by decide) (rd_index rfl Te22 rfl rfl rfl (by first | rfl | omega) (by omega)) ?_ | refine RT rfl rfl rfl (by decide) (rd_indexq rfl Te22 rfl rfl (by first | rfl | omega) (by assumption) rfl) ?_
    refine RT rfl rfl rfl (by decide) (rd_loadn1 rfl Tk3 rfl (by first | exact CB rfl | exact CQ | exact CA rfl (by first | assumption | (rw [Nat.zero_add]; assumption))) (by (try simp only [nm, putL, Nat.reduceAdd, cellsOf, cvOf]) <;> rfl)) ?_
    refine RT rfl rfl rfl (by decide) (rd_move rfl rfl) ?_
    refine RT rfl rfl rfl (by decide) (rd_move rfl rfl) ?_
    refine at_rd rfl rfl rfl (by decide) (rd_addz (z := ((k + 1 : Nat) : Int)) rfl rfl rfl (by omega) (by omega)) ?_
    first | refine RT rfl rfl rfl (by decide) (rd_index rfl Te22 rfl rfl rfl (by first | rfl | omega) (by omega)) ?_ | refine RT rfl rfl rfl (by decide) (rd_indexq rfl Te22 rfl rfl (by first | rfl | omega) (by assumption) rfl) ?_
    refine RT rfl rfl rfl (by decide) (rd_loadn1 rfl Tk3 rfl (by first | exact CB rfl | exact CQ | exact CA rfl (by first | assumption | (rw [Nat.zero_add]; assumption))) (by (try simp only [nm, putL, Nat.reduceAdd, cellsOf, cvOf]) <;> rfl)) ?_
    refine RT rfl rfl rfl (by decide) (rd_loadn rfl Tk64 rfl (by first | exact CB rfl | exact CQ | exact CA rfl (by first | assumption | (rw [Nat.zero_add]; assumption))) (by (try simp only [nm, putL, Nat.reduceAdd, cellsOf, cvOf]) <;> rfl) (by simp)) ?_
    refine RT rfl rfl rfl (by decide) (rd_move rfl rfl) ?_
    refine at_ef rfl rfl (ef_call0 false (fun _ => taken_a (spdL l cs ch k) (spdL l cs ch (k + 1)) x ch b1 b2 hxg hc) rfl .fn rfl (by decide) Tc105 rfl (by intro _g; (repeat first | exact K0 | apply K1 rfl | apply K2 rfl rfl | apply K2 rfl (by simp) | apply K3 | exact L0 | apply L1 | exact V1 rfl | exact V2 rfl | exact V3 rfl rfl | exact V4 | exact V5 rfl | exact V3 rfl (by simp; omega) | exact V1 (by simp; omega) | exact V3 rfl (by simp) | exact V1 (by simp) | exact V6 rfl rfl (by first | rfl | simp) (by simp) rfl | apply V7 | apply V8 | apply V9); fail_if_success focus skip) (by simp)) ?_
    rintro _ _ ⟨_, _, _, ⟨rfl, rfl⟩, hF, hH⟩
    (try simp only [nsl, Nat.reduceAdd, Nat.reduceLT, Nat.reduceSub] at hF); (try simp only [nsl, Nat.reduceAdd, Nat.reduceLT, Nat.reduceSub] at hH); subst hF; subst hH
    refine ⟨ag_none, ?_⟩
    refine RT rfl rfl rfl (by decide) (rd_move rfl rfl) ?_
    refine RT rfl rfl rfl (by decide) (rd_extract rfl rfl rfl) ?_
    refine RT rfl rfl rfl (by decide) (rd_extract rfl rfl rfl) ?_
    refine RT rfl rfl rfl (by decide) (rd_assign rfl rfl) ?_
    refine RT rfl rfl rfl (by decide) (rd_assign rfl rfl) ?_
    refine at_nil ?_
    repeat with_reducible first | refine S1 ?_ | refine S2 ?_ | refine S3 ?_ | refine S4 ?_ | refine S5 ?_ | refine S6 ?_ | refine S7 ?_ | refine S8 ?_ | refine S9 rfl ?_ | refine SA ?_ | refine SB ?_ | refine SC ?_
    obtain ⟨nu, hnu⟩ : ∃ z, numF (spdL l cs ch k) (spdL l cs ch (k + 1)) x ch = z := ⟨_, rfl⟩
    obtain ⟨de, hde⟩ : ∃ z, denF (spdL l cs ch k) (spdL l cs ch (k + 1)) x ch = z := ⟨_, rfl⟩
    rw [hnu, hde] at hb ht ⊢
    have hq0 : 0 ≤ nu / de := Int.ediv_nonneg hb.1 (by omega)
    have hq1 : nu / de ≤ nu := Int.ediv_le_self de hb.1
    repeat with_reducible first | refine S1 ?_ | refine S2 ?_ | refine S3 ?_ | refine S4 ?_ | refine S5 ?_ | refine S6 ?_ | refine S7 ?_ | refine S8 ?_ | refine S9 rfl ?_ | refine SA ?_ | refine SB ?_ | refine SC ?_
    refine aw_region ?_
    refine RA rfl rfl (by decide) (rd_move rfl rfl) ?_
    refine RA rfl rfl (by decide) (rd_move rfl rfl) ?_
    first | refine RA rfl rfl (by decide) (rd_quon rfl rfl rfl (by omega)) ?_ | refine RA rfl rfl (by decide) (rd_quo rfl rfl rfl (by omega)) ?_
    refine RA rfl rfl (by decide) (rd_assign rfl rfl) ?_
    refine al_nil ?_
    repeat with_reducible first | refine S1 ?_ | refine S2 ?_ | refine S3 ?_ | refine S4 ?_ | refine S5 ?_ | refine S6 ?_ | refine S7 ?_ | refine S8 ?_ | refine S9 rfl ?_ | refine SA ?_ | refine SB ?_ | refine SC ?_
    repeat with_reducible first | refine S1 ?_ | refine S2 ?_ | refine S3 ?_ | refine S4 ?_ | refine S5 ?_ | refine S6 ?_ | refine S7 ?_ | refine S8 ?_ | refine S9 rfl ?_ | refine SA ?_ | refine SB ?_ | refine SC ?_
    refine aw_region ?_
    refine RA rfl rfl (by decide) (rd_move rfl rfl) ?_
    refine RA rfl rfl (by decide) (rd_move rfl rfl) ?_
    first | refine RA rfl rfl (by decide) (rd_remn rfl rfl rfl (by omega)) ?_ | refine RA rfl rfl (by decide) (rd_rem rfl rfl rfl (by omega)) ?_
    first | refine RA rfl rfl (by decide) (rd_gtr_t rfl rfl rfl (by omega)) ?_ | refine RA rfl rfl (by decide) (rd_gtr_f rfl rfl rfl (by omega)) ?_ | refine RA rfl rfl (by decide) (rd_gtr rfl rfl rfl) ?_
    refine al_nil ?_
    refine aseq_n ?_
    refine aw_cut (fun F H => F = [(2, .c (I ch)), (9, .c (ints_r vv (speedsS l cs ch))), (10, .o 0 0 p.length c), (15, .c (I (timeL l cs ch k))), (27, .c (legs_r v l)), (28, .c (I (l.map Leg.row).length)), (29, .c (I k))] ∧ H = [.arr 3 1 c (p.map fun z => [I z])]) ?_ ?_ wk_aw
    · refine aw_if rfl (fun hgt => ?_) (fun hle => ?_)
      · repeat with_reducible first | refine S1 ?_ | refine S2 ?_ | refine S3 ?_ | refine S4 ?_ | refine S5 ?_ | refine S6 ?_ | refine S7 ?_ | refine S8 ?_ | refine S9 rfl ?_ | refine SA ?_ | refine SB ?_ | refine SC ?_
        refine aw_region ?_
        refine RA rfl rfl (by decide) (rd_move rfl rfl) ?_
        first | refine RA rfl rfl (by decide) (rd_addn rfl rfl rfl (by omega)) ?_ | refine RA rfl rfl (by decide) (rd_add rfl rfl rfl) ?_
        refine RA rfl rfl (by decide) (rd_assign rfl rfl) ?_
        refine al_nil ?_
        repeat with_reducible first | refine S1 ?_ | refine S2 ?_ | refine S3 ?_ | refine S4 ?_ | refine S5 ?_ | refine S6 ?_ | refine S7 ?_ | refine S8 ?_ | refine S9 rfl ?_ | refine SA ?_ | refine SB ?_ | refine SC ?_
        refine wk_of [some 0] (fun _ => [(2, .c (I ch)), (9, .c (ints_r vv (speedsS l cs ch))), (10, .o 0 0 p.length c), (15, .c (I (nu / de + 1))), (27, .c (legs_r v l)), (28, .c (I (l.map Leg.row).length)), (29, .c (I k))]) (fun _ => _) (by decide) (by rw [hE]; first | exact (fun _ hi => absurd hi (Nat.not_lt_zero _)) | exact (fun i hi => by (have hi : i < 1 := hi); (have h0 : i = 0 := (by omega)); (subst h0); rfl)) (by intro _g; (repeat first | exact W0 | apply W1 rfl | exact L0 | apply L1 | exact V1 rfl | exact V2 rfl | exact V3 rfl rfl | exact V4 | exact V5 rfl | exact V3 rfl (by simp; omega) | exact V1 (by simp; omega) | exact V3 rfl (by simp) | exact V1 (by simp) | exact V6 rfl rfl (by first | rfl | simp) (by simp) rfl | apply V7 | apply V8 | apply V9 | refine V1 ?_ | refine V3 rfl ?_); fail_if_success focus skip) (by intro _g; (repeat first | exact K0 | apply K1 rfl | apply K2 rfl rfl | apply K2 rfl (by simp) | apply K3 | exact L0 | apply L1 | exact V1 rfl | exact V2 rfl | exact V3 rfl rfl | exact V4 | exact V5 rfl | exact V3 rfl (by simp; omega) | exact V1 (by simp; omega) | exact V3 rfl (by simp) | exact V1 (by simp) | exact V6 rfl rfl (by first | rfl | simp) (by simp) rfl | apply V7 | apply V8 | apply V9); fail_if_success focus skip) (fun _ => ?_)
        exact ⟨by rw [ht, ceilF, if_pos hgt], rfl⟩
      · repeat with_reducible first | refine S1 ?_ | refine S2 ?_ | refine S3 ?_ | refine S4 ?_ | refine S5 ?_ | refine S6 ?_ | refine S7 ?_ | refine S8 ?_ | refine S9 rfl ?_ | refine SA ?_ | refine SB ?_ | refine SC ?_
        refine wk_of [some 0] (fun _ => [(2, .c (I ch)), (9, .c (ints_r vv (speedsS l cs ch))), (10, .o 0 0 p.length c), (15, .c (I (nu / de))), (27, .c (legs_r v l)), (28, .c (I (l.map Leg.row).length)), (29, .c (I k))]) (fun _ => _) (by decide) (by rw [hE]; first | exact (fun _ hi => absurd hi (Nat.not_lt_zero _)) | exact (fun i hi => by (have hi : i < 1 := hi); (have h0 : i = 0 := (by omega)); (subst h0); rfl)) (by intro _g; (repeat first | exact W0 | apply W1 rfl | exact L0 | apply L1 | exact V1 rfl | exact V2 rfl | exact V3 rfl rfl | exact V4 | exact V5 rfl | exact V3 rfl (by simp; omega) | exact V1 (by simp; omega) | exact V3 rfl (by simp) | exact V1 (by simp) | exact V6 rfl rfl (by first | rfl | simp) (by simp) rfl | apply V7 | apply V8 | apply V9 | refine V1 ?_ | refine V3 rfl ?_); fail_if_success focus skip) (by intro _g; (repeat first | exact K0 | apply K1 rfl | apply K2 rfl rfl | apply K2 rfl (by simp) | apply K3 | exact L0 | apply L1 | exact V1 rfl | exact V2 rfl | exact V3 rfl rfl | exact V4 | exact V5 rfl | exact V3 rfl (by simp; omega) | exact V1 (by simp; omega) | exact V3 rfl (by simp) | exact V1 (by simp) | exact V6 rfl rfl (by first | rfl | simp) (by simp) rfl | apply V7 | apply V8 | apply V9); fail_if_success focus skip) (fun _ => ?_)
        exact ⟨by rw [ht, ceilF, if_neg hle], rfl⟩
    rintro F H ⟨rfl, rfl⟩
    repeat with_reducible first | refine S1 ?_ | refine S2 ?_ | refine S3 ?_ | refine S4 ?_ | refine S5 ?_ | refine S6 ?_ | refine S7 ?_ | refine S8 ?_ | refine S9 rfl ?_ | refine SA ?_ | refine SB ?_ | refine SC ?_
    refine aw_region ?_
    refine RA rfl rfl (by decide) (rd_move rfl rfl) ?_
    refine RA rfl rfl (by decide) (rd_move rfl rfl) ?_
    refine EA rfl (ef_buildSlicen rfl rfl (by decide) Te22 (.cons rfl rfl (.nil _)) rfl Tz3 rfl rfl (by simp) (by simp) (by (try simp only [nm, putL, Nat.reduceAdd, cellsOf, cvOf]) <;> rfl) (by (try simp only [nm, putL, Nat.reduceAdd, cellsOf, cvOf]) <;> rfl)) ?_
    refine al_ef rfl (ef_appn rfl rfl (by decide) Ta22 rfl rfl (by first | rfl | simp | (simp; omega)) rfl (by first | exact Src.own rfl (by (try simp only [nm, putL, Nat.reduceAdd, cellsOf, cvOf]) <;> rfl) (by first | rfl | simp | (simp; omega)) | exact Src.ro (by simp) (by simp [CV.one, Value.oneCell'])) (by (try simp only [nm, putL, Nat.reduceAdd, cellsOf, cvOf]) <;> rfl) (by omega) (fun _ _ => rfl) (by intro g c2; simp only [List.map_cons, List.map_nil, killO, killV, AV.has, AV.hasL, List.contains_cons, List.contains_nil, Nat.reduceBEq, Bool.or_false, Bool.false_or, Bool.false_eq_true, beq_self_eq_true, if_false, if_true, List.set_cons_zero, List.set_cons_succ, List.nil_append]; rfl)) ?_
    rintro _ _ ⟨_, cc, hcc, rfl, rfl⟩
    refine RA rfl rfl (by decide) (rd_assign rfl rfl) ?_
    refine al_nil ?_
    repeat with_reducible first | refine S1 ?_ | refine S2 ?_ | refine S3 ?_ | refine S4 ?_ | refine S5 ?_ | refine S6 ?_ | refine S7 ?_ | refine S8 ?_ | refine S9 rfl ?_ | refine SA ?_ | refine SB ?_ | refine SC ?_
    refine aw_region ?_
    first | refine RA rfl rfl (by decide) (rd_addn rfl rfl rfl (by omega)) ?_ | refine RA rfl rfl (by decide) (rd_add rfl rfl rfl) ?_
    refine RA rfl rfl (by decide) (rd_move rfl rfl) ?_
    refine al_nil ?_
    repeat with_reducible first | refine S1 ?_ | refine S2 ?_ | refine S3 ?_ | refine S4 ?_ | refine S5 ?_ | refine S6 ?_ | refine S7 ?_ | refine S8 ?_ | refine S9 rfl ?_ | refine SA ?_ | refine SB ?_ | refine SC ?_
    refine wk_of [some 0] (fun _ => [(2, .c (I ch)), (9, .c (ints_r vv (speedsS l cs ch))), (10, .o 0 0 (p ++ [timeL l cs ch k]).length cc), (27, .c (legs_r v l)), (28, .c (I (l.map Leg.row).length)), (29, .c (I (k + 1 : Nat)))]) (fun _ => _) (by decide) (by rw [hE]; first | exact (fun _ hi => absurd hi (Nat.not_lt_zero _)) | exact (fun i hi => by (have hi : i < 1 := hi); (have h0 : i = 0 := (by omega)); (subst h0); rfl)) (by intro _g; (repeat first | exact W0 | apply W1 rfl | exact L0 | apply L1 | exact V1 rfl | exact V2 rfl | exact V3 rfl rfl | exact V4 | exact V5 rfl | exact V3 rfl (by simp; omega) | exact V1 (by simp; omega) | exact V3 rfl (by simp) | exact V1 (by simp) | exact V6 rfl rfl (by first | rfl | simp) (by simp) rfl | apply V7 | apply V8 | apply V9 | refine V1 ?_ | refine V3 rfl ?_); fail_if_success focus skip) (by intro _g; (repeat first | exact K0 | apply K1 rfl | apply K2 rfl rfl | apply K2 rfl (by simp) | apply K3 | exact L0 | apply L1 | exact V1 rfl | exact V2 rfl | exact V3 rfl rfl | exact V4 | exact V5 rfl | exact V3 rfl (by simp; omega) | exact V1 (by simp; omega) | exact V3 rfl (by simp) | exact V1 (by simp) | exact V6 rfl rfl (by first | rfl | simp) (by simp) rfl | apply V7 | apply V8 | apply V9); fail_if_success focus skip) (fun _ => ?_)
    exact ⟨m - 1, by omega, k + 1, cc, p ++ [timeL l cs ch k], by omega, by rw [← upto_next, hp], rfl, by rw [List.map_append]; rfl⟩
  obtain rfl : k = l.length := by omega
  repeat with_reducible first | refine S1 ?_ | refine S2 ?_ | refine S3 ?_ | refine S4 ?_ | refine S5 ?_ | refine S6 ?_ | refine S7 ?_ | refine S8 ?_ | refine S9 rfl ?_ | refine SA ?_ | refine SB ?_ | refine SC ?_
  repeat with_reducible first | refine S1 ?_ | refine S2 ?_ | refine S3 ?_ | refine S4 ?_ | refine S5 ?_ | refine S6 ?_ | refine S7 ?_ | refine S8 ?_ | refine S9 rfl ?_ | refine SA ?_ | refine SB ?_ | refine SC ?_
  refine aw_region ?_
  refine RA rfl rfl (by decide) (rd_move rfl rfl) ?_
  refine RA rfl rfl (by decide) (rd_assign rfl rfl) ?_
  refine RA rfl rfl (by decide) (rd_assign rfl rfl) ?_
  refine al_nil ?_
  repeat with_reducible first | refine S1 ?_ | refine S2 ?_ | refine S3 ?_ | refine S4 ?_ | refine S5 ?_ | refine S6 ?_ | refine S7 ?_ | refine S8 ?_ | refine S9 rfl ?_ | refine SA ?_ | refine SB ?_ | refine SC ?_
  exact aret_f2 [] [] rfl rfl rfl rfl rfl rfl (by rw [List.drop_zero, List.take_of_length_le (by simp)]) (by simp) (by decide) (by decide) (fun _ hi => absurd hi (Nat.not_lt_zero _)) (by intro _g; (repeat first | exact K0 | apply K1 rfl | apply K2 rfl rfl | apply K2 rfl (by simp) | apply K3 | exact L0 | apply L1 | exact V1 rfl | exact V2 rfl | exact V3 rfl rfl | exact V4 | exact V5 rfl | exact V3 rfl (by simp; omega) | exact V1 (by simp; omega) | exact V3 rfl (by simp) | exact V1 (by simp) | exact V6 rfl rfl (by first | rfl | simp) (by simp) rfl | apply V7 | apply V8 | apply V9); fail_if_success focus skip) (fun v' => ⟨v', by rw [h0, hp]; rfl, rfl⟩)
def sumW (l : List Int) : Int := l.foldl (fun a x => wrap64 (a + x)) 0
theorem sumW_next {l : List Int} {k : Nat} {x : Int} (h : l[k]? = some x) : sumW (l.take (k + 1)) = wrap64 (sumW (l.take k) + x) := by
  rw [take_nextk h, sumW, List.foldl_append]; rfl
theorem total_a (l : List Leg) (cs : List Int) (ch : Int) (v w : Value) (hl : l.length ≤ 1000000) (hcl : cs.length ≤ 1000000) : ACalls Try.prog 31 [.c (legs_r v l), .c (ints_r w cs), .c (I ch)] [] fun u H => u = .t [.c (I (sumW (if faultL l cs ch = 0 then timesS l cs ch else []))), .c (I (faultL l cs ch))] ∧ H = [] := by
  refine acalls_of (N := 32) Try.func31 rfl rfl (by simp) fun E hE => ?_
  repeat with_reducible first | refine S1 ?_ | refine S2 ?_ | refine S3 ?_ | refine S4 ?_ | refine S5 ?_ | refine S6 ?_ | refine S7 ?_ | refine S8 ?_ | refine S9 rfl ?_ | refine SA ?_ | refine SB ?_ | refine SC ?_
  refine aw_region ?_
  refine RA rfl rfl (by decide) (rd_assign rfl rfl) ?_
  refine RA rfl rfl (by decide) (rd_assign rfl rfl) ?_
  refine al_nil ?_
  repeat with_reducible first | refine S1 ?_ | refine S2 ?_ | refine S3 ?_ | refine S4 ?_ | refine S5 ?_ | refine S6 ?_ | refine S7 ?_ | refine S8 ?_ | refine S9 rfl ?_ | refine SA ?_ | refine SB ?_ | refine SC ?_
  refine aw_region ?_
  refine RA rfl rfl (by decide) (rd_move rfl rfl) ?_
  refine RA rfl rfl (by decide) (rd_move rfl rfl) ?_
  refine RA rfl rfl (by decide) (rd_move rfl rfl) ?_
  refine al_ef rfl (ef_call0 false (fun _ => times_a l cs ch v w hl hcl) rfl .fn rfl (by decide) Tc30 rfl (by intro _g; (repeat first | exact K0 | apply K1 rfl | apply K2 rfl rfl | apply K2 rfl (by simp) | apply K3 | exact L0 | apply L1 | exact V1 rfl | exact V2 rfl | exact V3 rfl rfl | exact V4 | exact V5 rfl | exact V3 rfl (by simp; omega) | exact V1 (by simp; omega) | exact V3 rfl (by simp) | exact V1 (by simp) | exact V6 rfl rfl (by first | rfl | simp) (by simp) rfl | apply V7 | apply V8 | apply V9); fail_if_success focus skip) (by simp)) ?_
  rintro _ _ ⟨_, _, _, ⟨vt, rfl, rfl⟩, hF, hH⟩
  (try simp only [nsl, Nat.reduceAdd, Nat.reduceLT, Nat.reduceSub] at hF); (try simp only [nsl, Nat.reduceAdd, Nat.reduceLT, Nat.reduceSub] at hH); subst hF; subst hH
  refine RA rfl rfl (by decide) (rd_move rfl rfl) ?_
  refine RA rfl rfl (by decide) (rd_extract rfl rfl rfl) ?_
  refine RA rfl rfl (by decide) (rd_extract rfl rfl rfl) ?_
  refine RA rfl rfl (by decide) (rd_assign rfl rfl) ?_
  refine RA rfl rfl (by decide) (rd_assign rfl rfl) ?_
  refine al_nil ?_
  repeat with_reducible first | refine S1 ?_ | refine S2 ?_ | refine S3 ?_ | refine S4 ?_ | refine S5 ?_ | refine S6 ?_ | refine S7 ?_ | refine S8 ?_ | refine S9 rfl ?_ | refine SA ?_ | refine SB ?_ | refine SC ?_
  obtain ⟨p, hp⟩ : ∃ p, (if faultL l cs ch = 0 then timesS l cs ch else []) = p := ⟨_, rfl⟩
  have hpl : p.length ≤ 1000000 := by
    rw [← hp]; split
    · rw [timesS, upto_len]; exact hl
    · simp
  rw [hp]
  have e1 : (p.map fun z => [I z]).length = p.length := by simp
  repeat with_reducible first | refine S1 ?_ | refine S2 ?_ | refine S3 ?_ | refine S4 ?_ | refine S5 ?_ | refine S6 ?_ | refine S7 ?_ | refine S8 ?_ | refine S9 rfl ?_ | refine SA ?_ | refine SB ?_ | refine SC ?_
  refine aw_region ?_
  refine RA rfl rfl (by decide) (rd_assign rfl rfl) ?_
  refine al_nil ?_
  repeat with_reducible first | refine S1 ?_ | refine S2 ?_ | refine S3 ?_ | refine S4 ?_ | refine S5 ?_ | refine S6 ?_ | refine S7 ?_ | refine S8 ?_ | refine S9 rfl ?_ | refine SA ?_ | refine SB ?_ | refine SC ?_
  refine aw_region ?_
  refine RA rfl rfl (by decide) (rd_move rfl rfl) ?_
  first | refine RA rfl rfl (by decide) (rd_len rfl Te22 rfl) ?_ | refine RA rfl rfl (by decide) (rd_lenr rfl Te22 rfl) ?_
  refine RA rfl rfl (by decide) (rd_move rfl rfl) ?_
  refine al_nil ?_
  repeat with_reducible first | refine S1 ?_ | refine S2 ?_ | refine S3 ?_ | refine S4 ?_ | refine S5 ?_ | refine S6 ?_ | refine S7 ?_ | refine S8 ?_ | refine S9 rfl ?_ | refine SA ?_ | refine SB ?_ | refine SC ?_
  refine aw_loopw (fun m F H => ∃ (k : Nat), m + k = p.length ∧ F = [(9, .c (I (faultL l cs ch))), (10, .c (I (sumW (p.take k)))), (20, .c (ints_r vt p)), (21, .c (I (p.map fun z => [I z]).length)), (22, .c (I k))] ∧ H = []) ?_ ?_
  · refine wk_of [] (fun _ => [(9, .c (I (faultL l cs ch))), (10, .c (I 0)), (20, .c (ints_r vt p)), (21, .c (I (p.map fun z => [I z]).length)), (22, .c (I (0 : Nat)))]) (fun _ => _) (by decide) (by rw [hE]; first | exact (fun _ hi => absurd hi (Nat.not_lt_zero _)) | exact (fun i hi => by (have hi : i < 1 := hi); (have h0 : i = 0 := (by omega)); (subst h0); rfl)) (by intro _g; (repeat first | exact W0 | apply W1 rfl | exact L0 | apply L1 | exact V1 rfl | exact V2 rfl | exact V3 rfl rfl | exact V4 | exact V5 rfl | exact V3 rfl (by simp; omega) | exact V1 (by simp; omega) | exact V3 rfl (by simp) | exact V1 (by simp) | exact V6 rfl rfl (by first | rfl | simp) (by simp) rfl | apply V7 | apply V8 | apply V9 | refine V1 ?_ | refine V3 rfl ?_); fail_if_success focus skip) (by intro _g; (repeat first | exact K0 | apply K1 rfl | apply K2 rfl rfl | apply K2 rfl (by simp) | apply K3 | exact L0 | apply L1 | exact V1 rfl | exact V2 rfl | exact V3 rfl rfl | exact V4 | exact V5 rfl | exact V3 rfl (by simp; omega) | exact V1 (by simp; omega) | exact V3 rfl (by simp) | exact V1 (by simp) | exact V6 rfl rfl (by first | rfl | simp) (by simp) rfl | apply V7 | apply V8 | apply V9); fail_if_success focus skip) (fun _ => ?_)
    exact ⟨p.length, 0, by omega, rfl, rfl⟩
  rintro m F H ⟨k, hk, rfl, rfl⟩
  repeat with_reducible first | refine S1 ?_ | refine S2 ?_ | refine S3 ?_ | refine S4 ?_ | refine S5 ?_ | refine S6 ?_ | refine S7 ?_ | refine S8 ?_ | refine S9 rfl ?_ | refine SA ?_ | refine SB ?_ | refine SC ?_
  refine aw_region ?_
  first | refine RA rfl rfl (by decide) (rd_lss_t rfl rfl rfl (by omega)) ?_ | refine RA rfl rfl (by decide) (rd_lss_f rfl rfl rfl (by omega)) ?_ | refine RA rfl rfl (by decide) (rd_lss rfl rfl rfl) ?_
  refine al_nil ?_
  repeat with_reducible first | refine S1 ?_ | refine S2 ?_ | refine S3 ?_ | refine S4 ?_ | refine S5 ?_ | refine S6 ?_ | refine S7 ?_ | refine S8 ?_ | refine S9 rfl ?_ | refine SA ?_ | refine SB ?_ | refine SC ?_
  refine aw_if rfl (fun hlt => ?_) (fun hge => ?_)
  · obtain ⟨x, hx⟩ : ∃ x, p[k]? = some x := ⟨_, List.getElem?_eq_getElem (by omega)⟩
    have r1 : (p.map fun z => [I z])[k]? = some [I x] := by rw [List.getElem?_map, hx]; rfl
    repeat with_reducible first | refine S1 ?_ | refine S2 ?_ | refine S3 ?_ | refine S4 ?_ | refine S5 ?_ | refine S6 ?_ | refine S7 ?_ | refine S8 ?_ | refine S9 rfl ?_ | refine SA ?_ | refine SB ?_ | refine SC ?_
    refine aw_region ?_
    first | refine RA rfl rfl (by decide) (rd_index rfl Te22 rfl rfl rfl (by first | rfl | omega) (by omega)) ?_ | refine RA rfl rfl (by decide) (rd_indexq rfl Te22 rfl rfl (by first | rfl | omega) (by assumption) rfl) ?_
    refine RA rfl rfl (by decide) (rd_loadn1 rfl Tk3 rfl (by first | exact CB rfl | exact CQ | exact CA rfl (by first | assumption | (rw [Nat.zero_add]; assumption))) (by (try simp only [nm, putL, Nat.reduceAdd, cellsOf, cvOf]) <;> rfl)) ?_
    refine RA rfl rfl (by decide) (rd_assign rfl rfl) ?_
    refine al_nil ?_
    repeat with_reducible first | refine S1 ?_ | refine S2 ?_ | refine S3 ?_ | refine S4 ?_ | refine S5 ?_ | refine S6 ?_ | refine S7 ?_ | refine S8 ?_ | refine S9 rfl ?_ | refine SA ?_ | refine SB ?_ | refine SC ?_
    repeat with_reducible first | refine S1 ?_ | refine S2 ?_ | refine S3 ?_ | refine S4 ?_ | refine S5 ?_ | refine S6 ?_ | refine S7 ?_ | refine S8 ?_ | refine S9 rfl ?_ | refine SA ?_ | refine SB ?_ | refine SC ?_
    refine aw_region ?_
    refine RA rfl rfl (by decide) (rd_move rfl rfl) ?_
    refine RA rfl rfl (by decide) (rd_move rfl rfl) ?_
    refine al_rd rfl rfl (by decide) (rd_add rfl rfl rfl) ?_
    refine RA rfl rfl (by decide) (rd_assign rfl rfl) ?_
    refine al_nil ?_
    repeat with_reducible first | refine S1 ?_ | refine S2 ?_ | refine S3 ?_ | refine S4 ?_ | refine S5 ?_ | refine S6 ?_ | refine S7 ?_ | refine S8 ?_ | refine S9 rfl ?_ | refine SA ?_ | refine SB ?_ | refine SC ?_
    repeat with_reducible first | refine S1 ?_ | refine S2 ?_ | refine S3 ?_ | refine S4 ?_ | refine S5 ?_ | refine S6 ?_ | refine S7 ?_ | refine S8 ?_ | refine S9 rfl ?_ | refine SA ?_ | refine SB ?_ | refine SC ?_
    refine aw_region ?_
    first | refine RA rfl rfl (by decide) (rd_addn rfl rfl rfl (by omega)) ?_ | refine RA rfl rfl (by decide) (rd_add rfl rfl rfl) ?_
    refine RA rfl rfl (by decide) (rd_move rfl rfl) ?_
    refine al_nil ?_
    repeat with_reducible first | refine S1 ?_ | refine S2 ?_ | refine S3 ?_ | refine S4 ?_ | refine S5 ?_ | refine S6 ?_ | refine S7 ?_ | refine S8 ?_ | refine S9 rfl ?_ | refine SA ?_ | refine SB ?_ | refine SC ?_
    refine wk_of [] (fun _ => [(9, .c (I (faultL l cs ch))), (10, .c (I (wrap64 (sumW (p.take k) + x)))), (20, .c (ints_r vt p)), (21, .c (I (p.map fun z => [I z]).length)), (22, .c (I (k + 1 : Nat)))]) (fun _ => _) (by decide) (by rw [hE]; first | exact (fun _ hi => absurd hi (Nat.not_lt_zero _)) | exact (fun i hi => by (have hi : i < 1 := hi); (have h0 : i = 0 := (by omega)); (subst h0); rfl)) (by intro _g; (repeat first | exact W0 | apply W1 rfl | exact L0 | apply L1 | exact V1 rfl | exact V2 rfl | exact V3 rfl rfl | exact V4 | exact V5 rfl | exact V3 rfl (by simp; omega) | exact V1 (by simp; omega) | exact V3 rfl (by simp) | exact V1 (by simp) | exact V6 rfl rfl (by first | rfl | simp) (by simp) rfl | apply V7 | apply V8 | apply V9 | refine V1 ?_ | refine V3 rfl ?_); fail_if_success focus skip) (by intro _g; (repeat first | exact K0 | apply K1 rfl | apply K2 rfl rfl | apply K2 rfl (by simp) | apply K3 | exact L0 | apply L1 | exact V1 rfl | exact V2 rfl | exact V3 rfl rfl | exact V4 | exact V5 rfl | exact V3 rfl (by simp; omega) | exact V1 (by simp; omega) | exact V3 rfl (by simp) | exact V1 (by simp) | exact V6 rfl rfl (by first | rfl | simp) (by simp) rfl | apply V7 | apply V8 | apply V9); fail_if_success focus skip) (fun _ => ?_)
    exact ⟨m - 1, by omega, k + 1, by omega, by rw [sumW_next hx], rfl⟩
  obtain rfl : k = p.length := by omega
  repeat with_reducible first | refine S1 ?_ | refine S2 ?_ | refine S3 ?_ | refine S4 ?_ | refine S5 ?_ | refine S6 ?_ | refine S7 ?_ | refine S8 ?_ | refine S9 rfl ?_ | refine SA ?_ | refine SB ?_ | refine SC ?_
  refine aw_region ?_
  refine RA rfl rfl (by decide) (rd_move rfl rfl) ?_
  refine RA rfl rfl (by decide) (rd_move rfl rfl) ?_
  refine RA rfl rfl (by decide) (rd_assign rfl rfl) ?_
  refine RA rfl rfl (by decide) (rd_assign rfl rfl) ?_
  refine al_nil ?_
  repeat with_reducible first | refine S1 ?_ | refine S2 ?_ | refine S3 ?_ | refine S4 ?_ | refine S5 ?_ | refine S6 ?_ | refine S7 ?_ | refine S8 ?_ | refine S9 rfl ?_ | refine SA ?_ | refine SB ?_ | refine SC ?_
  exact aret_2 [] _ rfl rfl rfl rfl rfl (by decide) (fun _ hi => absurd hi (Nat.not_lt_zero _)) (by intro _g; (repeat first | exact K0 | apply K1 rfl | apply K2 rfl rfl | apply K2 rfl (by simp) | apply K3 | exact L0 | apply L1 | exact V1 rfl | exact V2 rfl | exact V3 rfl rfl | exact V4 | exact V5 rfl | exact V3 rfl (by simp; omega) | exact V1 (by simp; omega) | exact V3 rfl (by simp) | exact V1 (by simp) | exact V6 rfl rfl (by first | rfl | simp) (by simp) rfl | apply V7 | apply V8 | apply V9); fail_if_success focus skip) ⟨by rw [List.take_length], rfl⟩
theorem timesof_a (l : List Leg) (cs : List Int) (ch : Int) (v w : Value) (hr : Right l cs) (hc : 1 ≤ ch ∧ ch ≤ 10000000) : ACalls Try.prog 37 [.c (legs_r v l), .c (ints_r w cs), .c (I ch)] [] fun u H => ∃ v', u = .c (ints_r v' (timesS l cs ch)) ∧ H = [] := by
  have e1 : (l.map Leg.row).length = l.length := by simp
  have e2 := speedsS_len l cs ch
  have n2 := hr.le
  refine acalls_of (N := 47) Try.func37 rfl rfl (by simp) fun E hE => ?_
  repeat with_reducible first | refine S1 ?_ | refine S2 ?_ | refine S3 ?_ | refine S4 ?_ | refine S5 ?_ | refine S6 ?_ | refine S7 ?_ | refine S8 ?_ | refine S9 rfl ?_ | refine SA ?_ | refine SB ?_ | refine SC ?_
  refine aw_region ?_
  refine RA rfl rfl (by decide) (rd_assign rfl rfl) ?_
  refine al_nil ?_
  repeat with_reducible first | refine S1 ?_ | refine S2 ?_ | refine S3 ?_ | refine S4 ?_ | refine S5 ?_ | refine S6 ?_ | refine S7 ?_ | refine S8 ?_ | refine S9 rfl ?_ | refine SA ?_ | refine SB ?_ | refine SC ?_
  refine aw_region ?_
  refine RA rfl rfl (by decide) (rd_move rfl rfl) ?_
  refine RA rfl rfl (by decide) (rd_move rfl rfl) ?_
  refine RA rfl rfl (by decide) (rd_move rfl rfl) ?_
  refine al_ef rfl (ef_call0 false (fun _ => speedsof_a l cs ch v w hr hc) rfl .fn rfl (by decide) Tc46 rfl (by intro _g; (repeat first | exact K0 | apply K1 rfl | apply K2 rfl rfl | apply K2 rfl (by simp) | apply K3 | exact L0 | apply L1 | exact V1 rfl | exact V2 rfl | exact V3 rfl rfl | exact V4 | exact V5 rfl | exact V3 rfl (by simp; omega) | exact V1 (by simp; omega) | exact V3 rfl (by simp) | exact V1 (by simp) | exact V6 rfl rfl (by first | rfl | simp) (by simp) rfl | apply V7 | apply V8 | apply V9); fail_if_success focus skip) (by simp)) ?_
  rintro _ _ ⟨_, _, _, ⟨rfl, rfl⟩, hF, hH⟩
  (try simp only [nsl, Nat.reduceAdd, Nat.reduceLT, Nat.reduceSub] at hF); (try simp only [nsl, Nat.reduceAdd, Nat.reduceLT, Nat.reduceSub] at hH); subst hF; subst hH
  refine RA rfl rfl (by decide) (rd_assign rfl rfl) ?_
  refine al_nil ?_
  repeat with_reducible first | refine S1 ?_ | refine S2 ?_ | refine S3 ?_ | refine S4 ?_ | refine S5 ?_ | refine S6 ?_ | refine S7 ?_ | refine S8 ?_ | refine S9 rfl ?_ | refine SA ?_ | refine SB ?_ | refine SC ?_
  refine aw_wk (wk_of (K := fun F H => ∃ vv, F = [(0, .c (legs_r v l)), (2, .c (I ch)), (7, .c (ints_r vv (speedsS l cs ch)))] ∧ H = []) [] (fun g => [(0, .c (legs_r v l)), (2, .c (I ch)), (7, .c (ints_r (g (.o 0 0 (l.length + 1) (l.length + 1))) (speedsS l cs ch)))]) (fun _ => _) (by decide) (by rw [hE]; exact (fun _ hi => absurd hi (Nat.not_lt_zero _))) (fun _g => .cons rfl (.c rfl) (.cons rfl (.c rfl) (.cons rfl (.frz rfl rfl (by rw [List.drop_zero, List.take_of_length_le (by simp [speedsS_len])]) (by simp [speedsS_len]) rfl) .nil))) (by intro _g; (repeat first | exact K0 | apply K1 rfl | apply K2 rfl rfl | apply K2 rfl (by simp) | apply K3 | exact L0 | apply L1 | exact V1 rfl | exact V2 rfl | exact V3 rfl rfl | exact V4 | exact V5 rfl | exact V3 rfl (by simp; omega) | exact V1 (by simp; omega) | exact V3 rfl (by simp) | exact V1 (by simp) | exact V6 rfl rfl (by first | rfl | simp) (by simp) rfl | apply V7 | apply V8 | apply V9); fail_if_success focus skip) (fun g => ⟨_, rfl, rfl⟩)) ?_
  rintro F H ⟨vv, rfl, rfl⟩
  repeat with_reducible first | refine S1 ?_ | refine S2 ?_ | refine S3 ?_ | refine S4 ?_ | refine S5 ?_ | refine S6 ?_ | refine S7 ?_ | refine S8 ?_ | refine S9 rfl ?_ | refine SA ?_ | refine SB ?_ | refine SC ?_
  refine aw_region ?_
  refine RA rfl rfl (by decide) (rd_assign rfl rfl) ?_
  refine al_nil ?_
  repeat with_reducible first | refine S1 ?_ | refine S2 ?_ | refine S3 ?_ | refine S4 ?_ | refine S5 ?_ | refine S6 ?_ | refine S7 ?_ | refine S8 ?_ | refine S9 rfl ?_ | refine SA ?_ | refine SB ?_ | refine SC ?_
  refine aw_region ?_
  refine RA rfl rfl (by decide) (rd_move rfl rfl) ?_
  first | refine RA rfl rfl (by decide) (rd_len rfl Te54 rfl) ?_ | refine RA rfl rfl (by decide) (rd_lenr rfl Te54 rfl) ?_
  refine RA rfl rfl (by decide) (rd_move rfl rfl) ?_
  refine al_nil ?_
  repeat with_reducible first | refine S1 ?_ | refine S2 ?_ | refine S3 ?_ | refine S4 ?_ | refine S5 ?_ | refine S6 ?_ | refine S7 ?_ | refine S8 ?_ | refine S9 rfl ?_ | refine SA ?_ | refine SB ?_ | refine SC ?_
  refine aw_loopw (fun m F H => ∃ (k c : Nat) (p : List Int), m + k = l.length ∧ p = upto (timeL l cs ch) k ∧ F = [(2, .c (I ch)), (7, .c (ints_r vv (speedsS l cs ch))), (8, .o 0 0 p.length c), (16, .c (legs_r v l)), (17, .c (I (l.map Leg.row).length)), (18, .c (I k))] ∧ H = [.arr 3 1 c (p.map fun z => [I z])]) ?_ ?_
  · refine wk_of [none] (fun _ => [(2, .c (I ch)), (7, .c (ints_r vv (speedsS l cs ch))), (8, .o 0 0 ([] : List Int).length 0), (16, .c (legs_r v l)), (17, .c (I (l.map Leg.row).length)), (18, .c (I (0 : Nat)))]) (fun _ => [.arr 3 1 0 (([] : List Int).map fun z => [I z])]) (by decide) (by rw [hE]; first | exact (fun _ hi => absurd hi (Nat.not_lt_zero _)) | exact (fun i hi => by (have hi : i < 1 := hi); (have h0 : i = 0 := (by omega)); (subst h0); rfl)) (by intro _g; (repeat first | exact W0 | apply W1 rfl | exact L0 | apply L1 | exact V1 rfl | exact V2 rfl | exact V3 rfl rfl | exact V4 | exact V5 rfl | exact V3 rfl (by simp; omega) | exact V1 (by simp; omega) | exact V3 rfl (by simp) | exact V1 (by simp) | exact V6 rfl rfl (by first | rfl | simp) (by simp) rfl | apply V7 | apply V8 | apply V9 | refine V1 ?_ | refine V3 rfl ?_); fail_if_success focus skip) (by intro _g; (repeat first | exact K0 | apply K1 rfl | apply K2 rfl rfl | apply K2 rfl (by simp) | apply K3 | exact L0 | apply L1 | exact V1 rfl | exact V2 rfl | exact V3 rfl rfl | exact V4 | exact V5 rfl | exact V3 rfl (by simp; omega) | exact V1 (by simp; omega) | exact V3 rfl (by simp) | exact V1 (by simp) | exact V6 rfl rfl (by first | rfl | simp) (by simp) rfl | apply V7 | apply V8 | apply V9); fail_if_success focus skip) (fun _ => ?_)
    exact ⟨l.length, 0, 0, [], by omega, rfl, rfl, rfl⟩
  rintro m F H ⟨k, c, p, hk, hp, rfl, rfl⟩
  have hpl : p.length = k := by rw [hp, upto_len]
  repeat with_reducible first | refine S1 ?_ | refine S2 ?_ | refine S3 ?_ | refine S4 ?_ | refine S5 ?_ | refine S6 ?_ | refine S7 ?_ | refine S8 ?_ | refine S9 rfl ?_ | refine SA ?_ | refine SB ?_ | refine SC ?_
  refine aw_region ?_
  first | refine RA rfl rfl (by decide) (rd_lss_t rfl rfl rfl (by omega)) ?_ | refine RA rfl rfl (by decide) (rd_lss_f rfl rfl rfl (by omega)) ?_ | refine RA rfl rfl (by decide) (rd_lss rfl rfl rfl) ?_
  refine al_nil ?_
  repeat with_reducible first | refine S1 ?_ | refine S2 ?_ | refine S3 ?_ | refine S4 ?_ | refine S5 ?_ | refine S6 ?_ | refine S7 ?_ | refine S8 ?_ | refine S9 rfl ?_ | refine SA ?_ | refine SB ?_ | refine SC ?_
  refine aw_if rfl (fun hlt => ?_) (fun hge => ?_)
  · obtain ⟨x, hx⟩ : ∃ x, l[k]? = some x := ⟨_, List.getElem?_eq_getElem (by omega)⟩
    have hxd : legD l k = x := getD_of hx
    have hxg := hr.legs x (List.mem_of_getElem? hx)
    have b1 := spdL_b hr ch k (by omega)
    have b2 := spdL_b hr ch (k + 1) (by omega)
    have r1 : (l.map Leg.row)[k]? = some [I x.long, I x.limit] := by rw [List.getElem?_map, hx]; rfl
    have r4 : ((speedsS l cs ch).map fun z => [I z])[k]? = some [I (spdL l cs ch k)] := by rw [List.getElem?_map, speedsS_get (by omega)]; rfl
    have r5 : ((speedsS l cs ch).map fun z => [I z])[k + 1]? = some [I (spdL l cs ch (k + 1))] := by rw [List.getElem?_map, speedsS_get (by omega)]; rfl
    have hb := numF_b b1 b2 hxg hc
    have ht : timeL l cs ch k = ceilF (numF (spdL l cs ch k) (spdL l cs ch (k + 1)) x ch) (denF (spdL l cs ch k) (spdL l cs ch (k + 1)) x ch) := by rw [timeL, hxd]
    repeat with_reducible first | refine S1 ?_ | refine S2 ?_ | refine S3 ?_ | refine S4 ?_ | refine S5 ?_ | refine S6 ?_ | refine S7 ?_ | refine S8 ?_ | refine S9 rfl ?_ | refine SA ?_ | refine SB ?_ | refine SC ?_
    refine aw_region ?_
    refine RA rfl rfl (by decide) (rd_move rfl rfl) ?_
    first | refine RA rfl rfl (by decide) (rd_index rfl Te54 rfl rfl rfl (by first | rfl | omega) (by omega)) ?_ | refine RA rfl rfl (by decide) (rd_indexq rfl Te54 rfl rfl (by first | rfl | omega) (by assumption) rfl) ?_
    refine RA rfl rfl (by decide) (rd_loadn rfl Tk64 rfl (by first | exact CB rfl | exact CQ | exact CA rfl (by first | assumption | (rw [Nat.zero_add]; assumption))) (by (try simp only [nm, putL, Nat.reduceAdd, cellsOf, cvOf]) <;> rfl) (by simp)) ?_
    refine EA rfl (ef_allocn rfl rfl (by decide) Tz64 rfl rfl (by (try simp only [nm, putL, Nat.reduceAdd, cellsOf, cvOf]) <;> rfl) (by (try simp only [nm, putL, Nat.reduceAdd, cellsOf, cvOf]) <;> rfl)) ?_
    refine RA rfl rfl (by decide) (rd_assign rfl rfl) ?_
    first | refine EA rfl (ef_storen rfl rfl rfl rfl rfl Ts64 rfl (by simp) rfl (by (try simp only [nm, putL, Nat.reduceAdd, cellsOf, cvOf]) <;> rfl) (by (try simp only [nm, putL, Nat.reduceAdd, cellsOf, cvOf]) <;> rfl)) ?_ | refine EA rfl (ef_storern rfl rfl rfl rfl (by first | assumption | (rw [Nat.zero_add]; assumption)) rfl rfl Ts64 rfl (by simp) rfl (by (try simp only [nm, putL, Nat.reduceAdd, cellsOf, cvOf]) <;> rfl) rfl) ?_
    refine al_nil ?_
    repeat with_reducible first | refine S1 ?_ | refine S2 ?_ | refine S3 ?_ | refine S4 ?_ | refine S5 ?_ | refine S6 ?_ | refine S7 ?_ | refine S8 ?_ | refine S9 rfl ?_ | refine SA ?_ | refine SB ?_ | refine SC ?_
    refine aw_cut (fun F H => F = [(2, .c (I ch)), (7, .c (ints_r vv (speedsS l cs ch))), (8, .o 0 0 p.length c), (11, .p 1 0 0), (16, .c (legs_r v l)), (17, .c (I (l.map Leg.row).length)), (18, .c (I k))] ∧ H = [.arr 3 1 c (p.map fun z => [I z]), .box [.c (I (numF (spdL l cs ch k) (spdL l cs ch (k + 1)) x ch / gcdI (numF (spdL l cs ch k) (spdL l cs ch (k + 1)) x ch) (denF (spdL l cs ch k) (spdL l cs ch (k + 1)) x ch))), .c (I (denF (spdL l cs ch k) (spdL l cs ch (k + 1)) x ch / gcdI (numF (spdL l cs ch k) (spdL l cs ch (k + 1)) x ch) (denF (spdL l cs ch k) (spdL l cs ch (k + 1)) x ch)))]]) ?_ ?_ wk_aw
    · repeat with_reducible first | refine S1 ?_ | refine S2 ?_ | refine S3 ?_ | refine S4 ?_ | refine S5 ?_ | refine S6 ?_ | refine S7 ?_ | refine S8 ?_ | refine S9 rfl ?_ | refine SA ?_ | refine SB ?_ | refine SC ?_
      refine aw_regionM [[(0, none), (1, none), (2, none), (3, none), (4, none), (5, none), (6, none), (7, none), (8, none), (9, none), (10, none), (11, some []), (12, some [0, 1, 2, 3, 4, 5, 6, 7, 8, 9, 10]), (13, some [])], [(0, none), (1, none), (2, none), (3, none), (4, none), (5, none), (6, none), (7, none), (8, none), (9, none), (10, none), (12, some [0, 1, 2, 3, 4, 5, 6, 7, 8, 9, 10]), (11, some []), (13, some [])]] hMixed (by kernel_rfl) ?_
      focus
        refine RM (i := 0) (ps' := [[(1, none), (2, none), (3, none), (4, none), (5, none), (6, none), (7, none), (8, none), (9, none), (10, none), (11, some []), (12, some [0, 1, 2, 3, 4, 5, 6, 7, 8, 9, 10]), (13, some [])], [(1, none), (2, none), (3, none), (4, none), (5, none), (6, none), (7, none), (8, none), (9, none), (10, none), (12, some [0, 1, 2, 3, 4, 5, 6, 7, 8, 9, 10]), (11, some []), (13, some [])]]) (by rfl) (by rfl) rfl rfl rfl (by decide) (rd_move rfl rfl) ?_
        refine RM (i := 1) (ps' := [[(2, none), (3, none), (4, none), (5, none), (6, none), (7, none), (8, none), (9, none), (10, none), (11, some []), (12, some [0, 1, 2, 3, 4, 5, 6, 7, 8, 9, 10]), (13, some [])], [(2, none), (3, none), (4, none), (5, none), (6, none), (7, none), (8, none), (9, none), (10, none), (12, some [0, 1, 2, 3, 4, 5, 6, 7, 8, 9, 10]), (11, some []), (13, some [])]]) (by rfl) (by rfl) rfl rfl rfl (by decide) (rd_move rfl rfl) ?_
        first | refine RM (i := 2) (ps' := [[(3, none), (4, none), (5, none), (6, none), (7, none), (8, none), (9, none), (10, none), (11, some []), (12, some [0, 1, 2, 3, 4, 5, 6, 7, 8, 9, 10]), (13, some [])], [(3, none), (4, none), (5, none), (6, none), (7, none), (8, none), (9, none), (10, none), (12, some [0, 1, 2, 3, 4, 5, 6, 7, 8, 9, 10]), (11, some []), (13, some [])]]) (by rfl) (by rfl) rfl rfl rfl (by decide) (rd_index rfl Te22 rfl rfl rfl (by first | rfl | omega) (by omega)) ?_ | refine RM (i := 2) (ps' := [[(3, none), (4, none), (5, none), (6, none), (7, none), (8, none), (9, none), (10, none), (11, some []), (12, some [0, 1, 2, 3, 4, 5, 6, 7, 8, 9, 10]), (13, some [])], [(3, none), (4, none), (5, none), (6, none), (7, none), (8, none), (9, none), (10, none), (12, some [0, 1, 2, 3, 4, 5, 6, 7, 8, 9, 10]), (11, some []), (13, some [])]]) (by rfl) (by rfl) rfl rfl rfl (by decide) (rd_indexq rfl Te22 rfl rfl (by first | rfl | omega) (by assumption) rfl) ?_
        refine RM (i := 3) (ps' := [[(4, none), (5, none), (6, none), (7, none), (8, none), (9, none), (10, none), (11, some []), (12, some [0, 1, 2, 3, 4, 5, 6, 7, 8, 9, 10]), (13, some [])], [(4, none), (5, none), (6, none), (7, none), (8, none), (9, none), (10, none), (12, some [0, 1, 2, 3, 4, 5, 6, 7, 8, 9, 10]), (11, some []), (13, some [])]]) (by rfl) (by rfl) rfl rfl rfl (by decide) (rd_loadn1 rfl Tk3 rfl (by first | exact CB rfl | exact CQ | exact CA rfl (by first | assumption | (rw [Nat.zero_add]; assumption))) (by (try simp only [nm, putL, Nat.reduceAdd, cellsOf, cvOf]) <;> rfl)) ?_
        refine RM (i := 4) (ps' := [[(5, none), (6, none), (7, none), (8, none), (9, none), (10, none), (11, some []), (12, some [0, 1, 2, 3, 4, 5, 6, 7, 8, 9, 10]), (13, some [])], [(5, none), (6, none), (7, none), (8, none), (9, none), (10, none), (12, some [0, 1, 2, 3, 4, 5, 6, 7, 8, 9, 10]), (11, some []), (13, some [])]]) (by rfl) (by rfl) rfl rfl rfl (by decide) (rd_move rfl rfl) ?_
        refine RM (i := 5) (ps' := [[(6, none), (7, none), (8, none), (9, none), (10, none), (11, some []), (12, some [0, 1, 2, 3, 4, 5, 6, 7, 8, 9, 10]), (13, some [])], [(6, none), (7, none), (8, none), (9, none), (10, none), (12, some [0, 1, 2, 3, 4, 5, 6, 7, 8, 9, 10]), (11, some []), (13, some [])]]) (by rfl) (by rfl) rfl rfl rfl (by decide) (rd_move rfl rfl) ?_
        refine am_rd (i := 6) (ps' := [[(7, none), (8, none), (9, none), (10, none), (11, some []), (12, some [0, 1, 2, 3, 4, 5, 6, 7, 8, 9, 10]), (13, some [])], [(7, none), (8, none), (9, none), (10, none), (12, some [0, 1, 2, 3, 4, 5, 6, 7, 8, 9, 10]), (11, some []), (13, some [])]]) (by rfl) (by rfl) rfl rfl rfl (by decide) (rd_addz (z := ((k + 1 : Nat) : Int)) rfl rfl rfl (by omega) (by omega)) ?_
        first | refine RM (i := 7) (ps' := [[(8, none), (9, none), (10, none), (11, some []), (12, some [0, 1, 2, 3, 4, 5, 6, 7, 8, 9, 10]), (13, some [])], [(8, none), (9, none), (10, none), (12, some [0, 1, 2, 3, 4, 5, 6, 7, 8, 9, 10]), (11, some []), (13, some [])]]) (by rfl) (by rfl) rfl rfl rfl (by decide) (rd_index rfl Te22 rfl rfl rfl (by first | rfl | omega) (by omega)) ?_ | refine RM (i := 7) (ps' := [[(8, none), (9, none), (10, none), (11, some []), (12, some [0, 1, 2, 3, 4, 5, 6, 7, 8, 9, 10]), (13, some [])], [(8, none), (9, none), (10, none), (12, some [0, 1, 2, 3, 4, 5, 6, 7, 8, 9, 10]), (11, some []), (13, some [])]]) (by rfl) (by rfl) rfl rfl rfl (by decide) (rd_indexq rfl Te22 rfl rfl (by first | rfl | omega) (by assumption) rfl) ?_
        refine RM (i := 8) (ps' := [[(9, none), (10, none), (11, some []), (12, some [0, 1, 2, 3, 4, 5, 6, 7, 8, 9, 10]), (13, some [])], [(9, none), (10, none), (12, some [0, 1, 2, 3, 4, 5, 6, 7, 8, 9, 10]), (11, some []), (13, some [])]]) (by rfl) (by rfl) rfl rfl rfl (by decide) (rd_loadn1 rfl Tk3 rfl (by first | exact CB rfl | exact CQ | exact CA rfl (by first | assumption | (rw [Nat.zero_add]; assumption))) (by (try simp only [nm, putL, Nat.reduceAdd, cellsOf, cvOf]) <;> rfl)) ?_
        refine RM (i := 9) (ps' := [[(10, none), (11, some []), (12, some [0, 1, 2, 3, 4, 5, 6, 7, 8, 9, 10]), (13, some [])], [(10, none), (12, some [0, 1, 2, 3, 4, 5, 6, 7, 8, 9, 10]), (11, some []), (13, some [])]]) (by rfl) (by rfl) rfl rfl rfl (by decide) (rd_loadn rfl Tk64 rfl (by first | exact CB rfl | exact CQ | exact CA rfl (by first | assumption | (rw [Nat.zero_add]; assumption))) (by (try simp only [nm, putL, Nat.reduceAdd, cellsOf, cvOf]) <;> rfl) (by simp)) ?_
        refine RM (i := 10) (ps' := [[(11, some []), (12, some [0, 1, 2, 3, 4, 5, 6, 7, 8, 9, 10]), (13, some [])], [(12, some [0, 1, 2, 3, 4, 5, 6, 7, 8, 9, 10]), (11, some []), (13, some [])]]) (by rfl) (by rfl) rfl rfl rfl (by decide) (rd_move rfl rfl) ?_
        refine am_two (ps1 := [[(12, some [0, 1, 2, 3, 4, 5, 6, 7, 8, 9, 10]), (13, some [])]]) (ps2 := [[(11, some []), (13, some [])]]) (by rfl) (by rfl) (by rfl) ?_ ?_
        rotate_left
        refine am_ef2 (i := 12) (ps' := [[(11, some []), (13, some [])]]) (by rfl) (by rfl) rfl rfl (ef_allocn rfl rfl (by decide) Tz66 rfl rfl (by (try simp only [nm, putL, Nat.reduceAdd, cellsOf, cvOf]) <;> rfl) (by (try simp only [nm, putL, Nat.reduceAdd, cellsOf, cvOf]) <;> rfl)) (ag_cons (by first | exact ag_rd rfl rfl rfl (rd_move rfl rfl) rfl) (ag_cons (by first | exact ag_rd rfl rfl rfl (rd_move rfl rfl) rfl) (ag_cons (by first | exact ag_rd rfl rfl rfl (rd_index rfl Te22 rfl rfl rfl (by first | rfl | omega) (by omega)) rfl | exact ag_rd rfl rfl rfl (rd_indexq rfl Te22 rfl rfl (by first | rfl | omega) (by assumption) rfl) rfl | exact ag_rd rfl rfl rfl (rd_indexj rfl Te22 rfl rfl rfl (by first | rfl | omega) (by omega) (by omega)) rfl) (ag_cons (by first | exact ag_rd rfl rfl rfl (rd_loadn1 rfl Tk3 rfl (by first | exact CB rfl | exact CQ | exact CA rfl (by first | assumption | (rw [Nat.zero_add]; assumption))) (by (try simp only [nm, putL, Nat.reduceAdd, cellsOf, cvOf]) <;> rfl)) rfl) (ag_cons (by first | exact ag_rd rfl rfl rfl (rd_move rfl rfl) rfl) (ag_cons (by first | exact ag_rd rfl rfl rfl (rd_move rfl rfl) rfl) (ag_cons (by first | exact ag_rd rfl rfl rfl (rd_addz (z := ((k + 1 : Nat) : Int)) rfl rfl rfl (by omega) (by omega)) rfl) (ag_cons (by first | exact ag_rd rfl rfl rfl (rd_index rfl Te22 rfl rfl rfl (by first | rfl | omega) (by omega)) rfl | exact ag_rd rfl rfl rfl (rd_indexq rfl Te22 rfl rfl (by first | rfl | omega) (by assumption) rfl) rfl | exact ag_rd rfl rfl rfl (rd_indexj rfl Te22 rfl rfl rfl (by first | rfl | omega) (by omega) (by omega)) rfl) (ag_cons (by first | exact ag_rd rfl rfl rfl (rd_loadn1 rfl Tk3 rfl (by first | exact CB rfl | exact CQ | exact CA rfl (by first | assumption | (rw [Nat.zero_add]; assumption))) (by (try simp only [nm, putL, Nat.reduceAdd, cellsOf, cvOf]) <;> rfl)) rfl) (ag_cons (by first | exact ag_rd rfl rfl rfl (rd_loadn rfl Tk64 rfl (by first | exact CB rfl | exact CQ | exact CA rfl (by first | assumption | (rw [Nat.zero_add]; assumption))) (by (try simp only [nm, putL, Nat.reduceAdd, cellsOf, cvOf]) <;> rfl) (by simp)) rfl) (ag_cons (by first | exact ag_rd rfl rfl rfl (rd_move rfl rfl) rfl) (ag_none)))))))))))) ?_
        refine am_ef (i := 11) (ps' := [[(13, some [])]]) (by rfl) (by rfl) rfl rfl (ef_call0 false (fun _ => exactof_a (spdL l cs ch k) (spdL l cs ch (k + 1)) x ch b1 b2 hxg hc) rfl .fn rfl (by decide) Tc38 rfl (by intro _g; (repeat first | exact K0 | apply K1 rfl | apply K2 rfl rfl | apply K2 rfl (by simp) | apply K3 | exact L0 | apply L1 | exact V1 rfl | exact V2 rfl | exact V3 rfl rfl | exact V4 | exact V5 rfl | exact V3 rfl (by simp; omega) | exact V1 (by simp; omega) | exact V3 rfl (by simp) | exact V1 (by simp) | exact V6 rfl rfl (by first | rfl | simp) (by simp) rfl | apply V7 | apply V8 | apply V9); fail_if_success focus skip) (by simp)) ?_
        rintro _ _ ⟨_, _, _, ⟨rfl, rfl⟩, hF, hH⟩
        (try simp only [nsl, Nat.reduceAdd, Nat.reduceLT, Nat.reduceSub] at hF); (try simp only [nsl, Nat.reduceAdd, Nat.reduceLT, Nat.reduceSub] at hH); subst hF; subst hH
        refine ⟨ag_none, ?_⟩
        first | refine am_ef2 (i := 13) (ps' := [[]]) (by rfl) (by rfl) rfl rfl (ef_storen rfl rfl rfl rfl rfl Ts66 rfl (by simp) rfl (by (try simp only [nm, putL, Nat.reduceAdd, cellsOf, cvOf]) <;> rfl) (by (try simp only [nm, putL, Nat.reduceAdd, cellsOf, cvOf]) <;> rfl)) (ag_none) ?_ | refine am_ef2 (i := 13) (ps' := [[]]) (by rfl) (by rfl) rfl rfl (ef_storern rfl rfl rfl rfl (by first | assumption | (rw [Nat.zero_add]; assumption)) rfl rfl Ts66 rfl (by simp) rfl (by (try simp only [nm, putL, Nat.reduceAdd, cellsOf, cvOf]) <;> rfl) rfl) (ag_none) ?_
        refine am_nil ?_
        rotate_right
        refine am_ef (i := 11) (ps' := [[(12, some [0, 1, 2, 3, 4, 5, 6, 7, 8, 9, 10]), (13, some [])]]) (by rfl) (by rfl) rfl rfl (ef_call0 false (fun _ => exactof_a (spdL l cs ch k) (spdL l cs ch (k + 1)) x ch b1 b2 hxg hc) rfl .fn rfl (by decide) Tc38 rfl (by intro _g; (repeat first | exact K0 | apply K1 rfl | apply K2 rfl rfl | apply K2 rfl (by simp) | apply K3 | exact L0 | apply L1 | exact V1 rfl | exact V2 rfl | exact V3 rfl rfl | exact V4 | exact V5 rfl | exact V3 rfl (by simp; omega) | exact V1 (by simp; omega) | exact V3 rfl (by simp) | exact V1 (by simp) | exact V6 rfl rfl (by first | rfl | simp) (by simp) rfl | apply V7 | apply V8 | apply V9); fail_if_success focus skip) (by simp)) ?_
        rintro _ _ ⟨_, _, _, ⟨rfl, rfl⟩, hF, hH⟩
        (try simp only [nsl, Nat.reduceAdd, Nat.reduceLT, Nat.reduceSub] at hF); (try simp only [nsl, Nat.reduceAdd, Nat.reduceLT, Nat.reduceSub] at hH); subst hF; subst hH
        refine ⟨ag_none, ?_⟩
        refine am_ef2 (i := 12) (ps' := [[(13, some [])]]) (by rfl) (by rfl) rfl rfl (ef_allocn rfl rfl (by decide) Tz66 rfl rfl (by (try simp only [nm, putL, Nat.reduceAdd, cellsOf, cvOf]) <;> rfl) (by (try simp only [nm, putL, Nat.reduceAdd, cellsOf, cvOf]) <;> rfl)) (ag_cons (by first | exact ag_rd rfl rfl rfl (rd_move rfl rfl) rfl) (ag_cons (by first | exact ag_rd rfl rfl rfl (rd_move rfl rfl) rfl) (ag_cons (by first | exact ag_rd rfl rfl rfl (rd_index rfl Te22 rfl rfl rfl (by first | rfl | omega) (by omega)) rfl | exact ag_rd rfl rfl rfl (rd_indexq rfl Te22 rfl rfl (by first | rfl | omega) (by assumption) rfl) rfl | exact ag_rd rfl rfl rfl (rd_indexj rfl Te22 rfl rfl rfl (by first | rfl | omega) (by omega) (by omega)) rfl) (ag_cons (by first | exact ag_rd rfl rfl rfl (rd_loadn1 rfl Tk3 rfl (by first | exact CB rfl | exact CQ | exact CA rfl (by first | assumption | (rw [Nat.zero_add]; assumption))) (by (try simp only [nm, putL, Nat.reduceAdd, cellsOf, cvOf]) <;> rfl)) rfl) (ag_cons (by first | exact ag_rd rfl rfl rfl (rd_move rfl rfl) rfl) (ag_cons (by first | exact ag_rd rfl rfl rfl (rd_move rfl rfl) rfl) (ag_cons (by first | exact ag_rd rfl rfl rfl (rd_addz (z := ((k + 1 : Nat) : Int)) rfl rfl rfl (by omega) (by omega)) rfl) (ag_cons (by first | exact ag_rd rfl rfl rfl (rd_index rfl Te22 rfl rfl rfl (by first | rfl | omega) (by omega)) rfl | exact ag_rd rfl rfl rfl (rd_indexq rfl Te22 rfl rfl (by first | rfl | omega) (by assumption) rfl) rfl | exact ag_rd rfl rfl rfl (rd_indexj rfl Te22 rfl rfl rfl (by first | rfl | omega) (by omega) (by omega)) rfl) (ag_cons (by first | exact ag_rd rfl rfl rfl (rd_loadn1 rfl Tk3 rfl (by first | exact CB rfl | exact CQ | exact CA rfl (by first | assumption | (rw [Nat.zero_add]; assumption))) (by (try simp only [nm, putL, Nat.reduceAdd, cellsOf, cvOf]) <;> rfl)) rfl) (ag_cons (by first | exact ag_rd rfl rfl rfl (rd_loadn rfl Tk64 rfl (by first | exact CB rfl | exact CQ | exact CA rfl (by first | assumption | (rw [Nat.zero_add]; assumption))) (by (try simp only [nm, putL, Nat.reduceAdd, cellsOf, cvOf]) <;> rfl) (by simp)) rfl) (ag_cons (by first | exact ag_rd rfl rfl rfl (rd_move rfl rfl) rfl) (ag_none)))))))))))) ?_
        first | refine am_ef2 (i := 13) (ps' := [[]]) (by rfl) (by rfl) rfl rfl (ef_storen rfl rfl rfl rfl rfl Ts66 rfl (by simp) rfl (by (try simp only [nm, putL, Nat.reduceAdd, cellsOf, cvOf]) <;> rfl) (by (try simp only [nm, putL, Nat.reduceAdd, cellsOf, cvOf]) <;> rfl)) (ag_none) ?_ | refine am_ef2 (i := 13) (ps' := [[]]) (by rfl) (by rfl) rfl rfl (ef_storern rfl rfl rfl rfl (by first | assumption | (rw [Nat.zero_add]; assumption)) rfl rfl Ts66 rfl (by simp) rfl (by (try simp only [nm, putL, Nat.reduceAdd, cellsOf, cvOf]) <;> rfl) rfl) (ag_none) ?_
        refine am_nil ?_
      all_goals (repeat with_reducible first | refine S1 ?_ | refine S2 ?_ | refine S3 ?_ | refine S4 ?_ | refine S5 ?_ | refine S6 ?_ | refine S7 ?_ | refine S8 ?_ | refine S9 rfl ?_ | refine SA ?_ | refine SB ?_ | refine SC ?_)
      all_goals refine wk_of [some 0, some 2] (fun _ => [(2, .c (I ch)), (7, .c (ints_r vv (speedsS l cs ch))), (8, .o 0 0 p.length c), (11, .p 1 0 0), (16, .c (legs_r v l)), (17, .c (I (l.map Leg.row).length)), (18, .c (I k))]) (fun _ => _) (by decide) (by rw [hE]; exact (fun _ hi => absurd hi (Nat.not_lt_zero _))) (by intro _g; (repeat first | exact W0 | apply W1 rfl | exact L0 | apply L1 | exact V1 rfl | exact V2 rfl | exact V3 rfl rfl | exact V4 | exact V5 rfl | exact V3 rfl (by simp; omega) | exact V1 (by simp; omega) | exact V3 rfl (by simp) | exact V1 (by simp) | exact V6 rfl rfl (by first | rfl | simp) (by simp) rfl | apply V7 | apply V8 | apply V9 | refine V1 ?_ | refine V3 rfl ?_); fail_if_success focus skip) (by intro _g; (repeat first | exact K0 | apply K1 rfl | apply K2 rfl rfl | apply K2 rfl (by simp) | apply K3 | exact L0 | apply L1 | exact V1 rfl | exact V2 rfl | exact V3 rfl rfl | exact V4 | exact V5 rfl | exact V3 rfl (by simp; omega) | exact V1 (by simp; omega) | exact V3 rfl (by simp) | exact V1 (by simp) | exact V6 rfl rfl (by first | rfl | simp) (by simp) rfl | apply V7 | apply V8 | apply V9); fail_if_success focus skip) (fun _ => ⟨rfl, rfl⟩)
    rintro F H ⟨rfl, rfl⟩
    obtain ⟨nu, hnu⟩ : ∃ z, numF (spdL l cs ch k) (spdL l cs ch (k + 1)) x ch = z := ⟨_, rfl⟩
    obtain ⟨de, hde⟩ : ∃ z, denF (spdL l cs ch k) (spdL l cs ch (k + 1)) x ch = z := ⟨_, rfl⟩
    rw [hnu, hde] at hb ht ⊢
    have hlb := low_b (num := nu) (den := de) (by omega) (by omega)
    have hce := ceil_eq (num := nu) (den := de) (by omega) (by omega)
    have hnd := neg_ediv (nu / gcdI nu de) (de / gcdI nu de) (by omega)
    have hq0 : 0 ≤ nu / gcdI nu de / (de / gcdI nu de) := Int.ediv_nonneg (by omega) (by omega)
    have hq1 : nu / gcdI nu de / (de / gcdI nu de) ≤ nu / gcdI nu de := Int.ediv_le_self _ (by omega)
    have hnb : -9000000000000000000 ≤ (-(nu / gcdI nu de)) / (de / gcdI nu de) ∧ (-(nu / gcdI nu de)) / (de / gcdI nu de) ≤ 0 := by
      rw [hnd]; split <;> omega
    repeat with_reducible first | refine S1 ?_ | refine S2 ?_ | refine S3 ?_ | refine S4 ?_ | refine S5 ?_ | refine S6 ?_ | refine S7 ?_ | refine S8 ?_ | refine S9 rfl ?_ | refine SA ?_ | refine SB ?_ | refine SC ?_
    refine aw_region ?_
    refine RA rfl rfl (by decide) (rd_move rfl rfl) ?_
    first | refine RA rfl rfl (by decide) (rd_field rfl rfl Tf66_0) ?_ | refine RA rfl rfl (by decide) (rd_fieldq rfl rfl Tf66_0) ?_
    refine RA rfl rfl (by decide) (rd_loadn1 rfl Tk3 rfl (by first | exact CB rfl | exact CQ | exact CA rfl (by first | assumption | (rw [Nat.zero_add]; assumption))) (by (try simp only [nm, putL, Nat.reduceAdd, cellsOf, cvOf]) <;> rfl)) ?_
    first | refine RA rfl rfl (by decide) (rd_negn rfl rfl (by omega)) ?_ | refine RA rfl rfl (by decide) (rd_neg rfl rfl) ?_
    first | refine RA rfl rfl (by decide) (rd_field rfl rfl Tf66_1) ?_ | refine RA rfl rfl (by decide) (rd_fieldq rfl rfl Tf66_1) ?_
    refine RA rfl rfl (by decide) (rd_loadn1 rfl Tk3 rfl (by first | exact CB rfl | exact CQ | exact CA rfl (by first | assumption | (rw [Nat.zero_add]; assumption))) (by (try simp only [nm, putL, Nat.reduceAdd, cellsOf, cvOf]) <;> rfl)) ?_
    refine al_ef rfl (ef_call0 false (fun _ => floor_a (nu / gcdI nu de) (de / gcdI nu de) (by omega) (by omega) (by omega) (by omega)) rfl .fn rfl (by decide) Tc114 rfl (by intro _g; (repeat first | exact K0 | apply K1 rfl | apply K2 rfl rfl | apply K2 rfl (by simp) | apply K3 | exact L0 | apply L1 | exact V1 rfl | exact V2 rfl | exact V3 rfl rfl | exact V4 | exact V5 rfl | exact V3 rfl (by simp; omega) | exact V1 (by simp; omega) | exact V3 rfl (by simp) | exact V1 (by simp) | exact V6 rfl rfl (by first | rfl | simp) (by simp) rfl | apply V7 | apply V8 | apply V9); fail_if_success focus skip) (by simp)) ?_
    rintro _ _ ⟨_, _, _, ⟨rfl, rfl⟩, hF, hH⟩
    (try simp only [nsl, Nat.reduceAdd, Nat.reduceLT, Nat.reduceSub] at hF); (try simp only [nsl, Nat.reduceAdd, Nat.reduceLT, Nat.reduceSub] at hH); subst hF; subst hH
    first | refine RA rfl rfl (by decide) (rd_negn rfl rfl (by omega)) ?_ | refine RA rfl rfl (by decide) (rd_neg rfl rfl) ?_
    refine EA rfl (ef_buildSlicen rfl rfl (by decide) Te22 (.cons rfl rfl (.nil _)) rfl Tz3 rfl rfl (by simp) (by simp) (by (try simp only [nm, putL, Nat.reduceAdd, cellsOf, cvOf]) <;> rfl) (by (try simp only [nm, putL, Nat.reduceAdd, cellsOf, cvOf]) <;> rfl)) ?_
    refine al_ef rfl (ef_appn rfl rfl (by decide) Ta22 rfl rfl (by first | rfl | simp | (simp; omega)) rfl (by first | exact Src.own rfl (by (try simp only [nm, putL, Nat.reduceAdd, cellsOf, cvOf]) <;> rfl) (by first | rfl | simp | (simp; omega)) | exact Src.ro (by simp) (by simp [CV.one, Value.oneCell'])) (by (try simp only [nm, putL, Nat.reduceAdd, cellsOf, cvOf]) <;> rfl) (by omega) (fun _ _ => rfl) (by intro g c2; simp only [List.map_cons, List.map_nil, killO, killV, AV.has, AV.hasL, List.contains_cons, List.contains_nil, Nat.reduceBEq, Bool.or_false, Bool.false_or, Bool.false_eq_true, beq_self_eq_true, if_false, if_true, List.set_cons_zero, List.set_cons_succ, List.nil_append]; rfl)) ?_
    rintro _ _ ⟨_, cc, hcc, rfl, rfl⟩
    refine RA rfl rfl (by decide) (rd_assign rfl rfl) ?_
    refine al_nil ?_
    repeat with_reducible first | refine S1 ?_ | refine S2 ?_ | refine S3 ?_ | refine S4 ?_ | refine S5 ?_ | refine S6 ?_ | refine S7 ?_ | refine S8 ?_ | refine S9 rfl ?_ | refine SA ?_ | refine SB ?_ | refine SC ?_
    repeat with_reducible first | refine S1 ?_ | refine S2 ?_ | refine S3 ?_ | refine S4 ?_ | refine S5 ?_ | refine S6 ?_ | refine S7 ?_ | refine S8 ?_ | refine S9 rfl ?_ | refine SA ?_ | refine SB ?_ | refine SC ?_
    refine aw_region ?_
    first | refine RA rfl rfl (by decide) (rd_addn rfl rfl rfl (by omega)) ?_ | refine RA rfl rfl (by decide) (rd_add rfl rfl rfl) ?_
    refine RA rfl rfl (by decide) (rd_move rfl rfl) ?_
    refine al_nil ?_
    repeat with_reducible first | refine S1 ?_ | refine S2 ?_ | refine S3 ?_ | refine S4 ?_ | refine S5 ?_ | refine S6 ?_ | refine S7 ?_ | refine S8 ?_ | refine S9 rfl ?_ | refine SA ?_ | refine SB ?_ | refine SC ?_
    refine wk_of [some 0] (fun _ => [(2, .c (I ch)), (7, .c (ints_r vv (speedsS l cs ch))), (8, .o 0 0 (p ++ [timeL l cs ch k]).length cc), (16, .c (legs_r v l)), (17, .c (I (l.map Leg.row).length)), (18, .c (I (k + 1 : Nat)))]) (fun _ => _) (by decide) (by rw [hE]; first | exact (fun _ hi => absurd hi (Nat.not_lt_zero _)) | exact (fun i hi => by (have hi : i < 1 := hi); (have h0 : i = 0 := (by omega)); (subst h0); rfl)) (by intro _g; (repeat first | exact W0 | apply W1 rfl | exact L0 | apply L1 | exact V1 rfl | exact V2 rfl | exact V3 rfl rfl | exact V4 | exact V5 rfl | exact V3 rfl (by simp; omega) | exact V1 (by simp; omega) | exact V3 rfl (by simp) | exact V1 (by simp) | exact V6 rfl rfl (by first | rfl | simp) (by simp) rfl | apply V7 | apply V8 | apply V9 | refine V1 ?_ | refine V3 rfl ?_); fail_if_success focus skip) (by intro _g; (repeat first | exact K0 | apply K1 rfl | apply K2 rfl rfl | apply K2 rfl (by simp) | apply K3 | exact L0 | apply L1 | exact V1 rfl | exact V2 rfl | exact V3 rfl rfl | exact V4 | exact V5 rfl | exact V3 rfl (by simp; omega) | exact V1 (by simp; omega) | exact V3 rfl (by simp) | exact V1 (by simp) | exact V6 rfl rfl (by first | rfl | simp) (by simp) rfl | apply V7 | apply V8 | apply V9); fail_if_success focus skip) (fun _ => ?_)
    exact ⟨m - 1, by omega, k + 1, cc, p ++ [timeL l cs ch k], by omega, by rw [← upto_next, hp], rfl, by rw [List.map_append, ht, ← hce]; rfl⟩
  obtain rfl : k = l.length := by omega
  repeat with_reducible first | refine S1 ?_ | refine S2 ?_ | refine S3 ?_ | refine S4 ?_ | refine S5 ?_ | refine S6 ?_ | refine S7 ?_ | refine S8 ?_ | refine S9 rfl ?_ | refine SA ?_ | refine SB ?_ | refine SC ?_
  repeat with_reducible first | refine S1 ?_ | refine S2 ?_ | refine S3 ?_ | refine S4 ?_ | refine S5 ?_ | refine S6 ?_ | refine S7 ?_ | refine S8 ?_ | refine S9 rfl ?_ | refine SA ?_ | refine SB ?_ | refine SC ?_
  refine aw_region ?_
  refine RA rfl rfl (by decide) (rd_move rfl rfl) ?_
  refine RA rfl rfl (by decide) (rd_assign rfl rfl) ?_
  refine al_nil ?_
  repeat with_reducible first | refine S1 ?_ | refine S2 ?_ | refine S3 ?_ | refine S4 ?_ | refine S5 ?_ | refine S6 ?_ | refine S7 ?_ | refine S8 ?_ | refine S9 rfl ?_ | refine SA ?_ | refine SB ?_ | refine SC ?_
  exact aret_f1 [] [] rfl rfl rfl rfl (by rw [List.drop_zero, List.take_of_length_le (by simp)]) (by simp) (by decide) (by decide) (fun _ hi => absurd hi (Nat.not_lt_zero _)) (by intro _g; (repeat first | exact K0 | apply K1 rfl | apply K2 rfl rfl | apply K2 rfl (by simp) | apply K3 | exact L0 | apply L1 | exact V1 rfl | exact V2 rfl | exact V3 rfl rfl | exact V4 | exact V5 rfl | exact V3 rfl (by simp; omega) | exact V1 (by simp; omega) | exact V3 rfl (by simp) | exact V1 (by simp) | exact V6 rfl rfl (by first | rfl | simp) (by simp) rfl | apply V7 | apply V8 | apply V9); fail_if_success focus skip) (fun v' => ⟨v', by rw [hp]; rfl, rfl⟩)
end Go.Proofs.Ytpbedckdnoogpaa
