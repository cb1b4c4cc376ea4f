/- Times of legs, and the document's peaks and times, by value. -/
import Derived.Test.YtdmeohgojdfmoaaGreatQbc
import Derived.Test.YtdmeohgojdfmoaaGreatQbb
set_option linter.unusedSimpArgs false
set_option linter.unusedVariables false
/- Peaks and times of legs, of the program and of its document, by value. -/
namespace Go.Proofs.YtdmeohgojdfmoaaGreat
open Go Go.RowKit
set_option maxRecDepth 100000
abbrev legD (l : List Leg) (i : Nat) : Leg := l.getD i ⟨0, 0⟩
def peakL (l : List Leg) (cs : List Int) (ch : Int) (i : Nat) : Int := peakF (spdL l cs ch i) (spdL l cs ch (i + 1)) (legD l i) ch
def ceilF (num den : Int) : Int := if 0 < num % den then num / den + 1 else num / den
def timeL (l : List Leg) (cs : List Int) (ch : Int) (i : Nat) : Int := ceilF (numF (spdL l cs ch i) (spdL l cs ch (i + 1)) (legD l i) ch) (denF (spdL l cs ch i) (spdL l cs ch (i + 1)) (legD l i) ch)
def upto (f : Nat → Int) (k : Nat) : List Int := (List.range k).map f
theorem upto_len (f : Nat → Int) (k : Nat) : (upto f k).length = k := by simp [upto]
theorem upto_next (f : Nat → Int) (k : Nat) : upto f k ++ [f k] = upto f (k + 1) := by simp [upto, List.range_succ]
def peaksS (l : List Leg) (cs : List Int) (ch : Int) : List Int := upto (peakL l cs ch) l.length
def timesS (l : List Leg) (cs : List Int) (ch : Int) : List Int := upto (timeL l cs ch) l.length
theorem faultL_ok {l : List Leg} {cs : List Int} {ch : Int} (h : faultL l cs ch = 0) : Right l cs ∧ 1 ≤ ch ∧ ch ≤ 10000000 := by
  unfold faultL at h
  split at h
  · omega
  · exact ⟨cornersF_ok (by omega), changeF_ok h⟩
theorem peaks_a (l : List Leg) (cs : List Int) (ch : Int) (v w : Value) (hl : l.length ≤ 1000000) (hcl : cs.length ≤ 1000000) : ACalls Tryz.prog 19 [.c (legs_r v l), .c (ints_r w cs), .c (I ch)] [] fun u H => ∃ v', u = .t [.c (ints_r v' (if faultL l cs ch = 0 then peaksS l cs ch else [])), .c (I (faultL l cs ch))] ∧ H = [] := by
  have e1 : (l.map Leg.row).length = l.length := by simp
  refine acalls_of (N := 48) Tryz.func19 rfl rfl (by simp) fun E hE => ?_
  refine WA ?_
  refine WR ?_
  refine al_ef rfl (ef_call0 false (fun _ => fault1_a l cs ch v w (by omega) (by omega)) rfl .fn rfl (by decide) (by kernel_rfl) rfl (fun _ => C0 rfl) (by simp)) ?_
  rintro _ _ ⟨_, _, _, ⟨rfl, rfl⟩, hF, hH⟩
  (try simp only [nsl, Nat.reduceAdd, Nat.reduceLT, Nat.reduceSub] at hF); (try simp only [nsl, Nat.reduceAdd, Nat.reduceLT, Nat.reduceSub] at hH); subst hF; subst hH
  refine WE ?_
  refine WA ?_
  refine aw_if rfl (fun hne => ?_) (fun heq => ?_)
  · refine WA ?_
    exact aret_2 [] _ rfl rfl rfl rfl rfl (by decide) (ZNK rfl) (fun _ => .nil) ⟨_, by rw [if_neg hne]; rfl, rfl⟩
  have h0 : faultL l cs ch = 0 := by omega
  obtain ⟨hr, hc⟩ := faultL_ok h0
  have e2 := speedsS_len l cs ch
  rw [if_pos h0]
  refine ZZ ?_
  refine WR ?_
  refine al_ef rfl (ef_call0 false (fun _ => speeds_a l cs ch v w hr hc) rfl .fn rfl (by decide) (by kernel_rfl) rfl (fun _ => C0 rfl) (by simp)) ?_
  rintro _ _ ⟨_, _, _, ⟨vv, rfl, rfl⟩, hF, hH⟩
  (try simp only [nsl, Nat.reduceAdd, Nat.reduceLT, Nat.reduceSub] at hF); (try simp only [nsl, Nat.reduceAdd, Nat.reduceLT, Nat.reduceSub] at hH); subst hF; subst hH
  refine WE ?_
  refine WA ?_
  refine WA ?_
  refine aw_loopw (fun m F H => ∃ (k c : Nat) (p : List Int), m + k = l.length ∧ p = upto (peakL l cs ch) k ∧ F = [(2, .c (I ch)), (9, .c (ints_r vv (speedsS l cs ch))), (10, .o 0 0 p.length c), (24, .c (legs_r v l)), (25, .c (I (l.map Leg.row).length)), (26, .c (I k))] ∧ H = [.arr 3 1 c (p.map fun z => [I z])]) ?_ ?_
  · refine wk_of [none] (fun _ => [(2, .c (I ch)), (9, .c (ints_r vv (speedsS l cs ch))), (10, .o 0 0 ([] : List Int).length 0), (24, .c (legs_r v l)), (25, .c (I (l.map Leg.row).length)), (26, .c (I (0 : Nat)))]) (fun _ => [.arr 3 1 0 (([] : List Int).map fun z => [I z])]) (by decide) (ZNL hE) ZCF ZCH (fun _ => ?_)
    exact ⟨l.length, 0, 0, [], by omega, rfl, rfl, rfl⟩
  rintro m F H ⟨k, c, p, hk, hp, rfl, rfl⟩
  have hpl : p.length = k := by rw [hp, upto_len]
  have n2 := hr.le
  refine WA ?_
  refine aw_if rfl (fun hlt => ?_) (fun hge => ?_)
  · obtain ⟨x, hx⟩ : ∃ x, l[k]? = some x := ⟨_, List.getElem?_eq_getElem (by omega)⟩
    have hxd : legD l k = x := getD_of hx
    have hxg := hr.legs x (List.mem_of_getElem? hx)
    have b1 := spdL_b hr ch k (by omega)
    have b2 := spdL_b hr ch (k + 1) (by omega)
    have r1 : (l.map Leg.row)[k]? = some [I x.long, I x.limit] := by rw [List.getElem?_map, hx]; rfl
    have r4 : ((speedsS l cs ch).map fun z => [I z])[k]? = some [I (spdL l cs ch k)] := by rw [List.getElem?_map, speedsS_get (by omega)]; rfl
    have r5 : ((speedsS l cs ch).map fun z => [I z])[k + 1]? = some [I (spdL l cs ch (k + 1))] := by rw [List.getElem?_map, speedsS_get (by omega)]; rfl
    refine WA ?_
    refine ZZ ?_
    refine aw_regionT [(0, none), (1, none), (2, none), (3, none), (4, none), (5, none), (6, none), (7, none), (8, none), (9, none), (10, none), (11, none), (12, some [0]), (13, some [0]), (14, some []), (15, none)] hMixed (by kernel_rfl) ?_
    iterate 7 refine WX2 ?_
    refine ZT rfl (rd_addz (z := ((k + 1 : Nat) : Int)) rfl rfl rfl (by omega) (by omega)) ?_
    refine WP ?_
    refine at_ef rfl rfl (ef_call0 false (fun _ => peak1_a (spdL l cs ch k) (spdL l cs ch (k + 1)) x ch b1 b2 hxg hc) rfl .fn rfl (by decide) (by kernel_rfl) rfl (fun _ => C0 rfl) (by simp)) ?_
    rintro _ _ ⟨_, _, _, ⟨rfl, rfl⟩, hF, hH⟩
    (try simp only [nsl, Nat.reduceAdd, Nat.reduceLT, Nat.reduceSub] at hF); (try simp only [nsl, Nat.reduceAdd, Nat.reduceLT, Nat.reduceSub] at hH); subst hF; subst hH
    refine ⟨ag_cons (by first | exact ag_rd rfl rfl rfl (rd_move rfl rfl) rfl) (ag_none), ?_⟩
    refine WP ?_
    refine at_ef rfl rfl (Zapp (KA (t := 22) rfl)) ?_
    rintro _ _ ⟨_, cc, hcc, rfl, rfl⟩
    refine ⟨ag_none, ?_⟩
    refine WQ ?_
    refine WA ?_
    refine wk_of [some 0] (fun _ => [(2, .c (I ch)), (9, .c (ints_r vv (speedsS l cs ch))), (10, .o 0 0 (p ++ [peakF (spdL l cs ch k) (spdL l cs ch (k + 1)) x ch]).length cc), (24, .c (legs_r v l)), (25, .c (I (l.map Leg.row).length)), (26, .c (I (k + 1 : Nat)))]) (fun _ => _) (by decide) (ZNL hE) ZCF ZCH (fun _ => ?_)
    exact ⟨m - 1, by omega, k + 1, cc, p ++ [peakF (spdL l cs ch k) (spdL l cs ch (k + 1)) x ch], by omega, by rw [← upto_next, hp, peakL, hxd], rfl, by rw [List.map_append]; rfl⟩
  obtain rfl : k = l.length := by omega
  refine ZZ ?_
  refine WA ?_
  exact aret_f2 [] [] rfl rfl rfl rfl rfl rfl (by rw [List.drop_zero, List.take_of_length_le (by simp)]) (by simp) (by decide) (by decide) (ZNK rfl) (fun _ => .nil) (fun v' => ⟨v', by rw [h0, hp]; rfl, rfl⟩)
theorem peaks_o (l : List Leg) (cs : List Int) (ch : Int) (v w : Value) (hl : l.length ≤ 1000000) (hcl : cs.length ≤ 1000000) (h0 : faultL l cs ch = 0) : ACalls Tryz.prog 19 [.c (legs_r v l), .c (ints_r w cs), .c (I ch)] [] fun u H => ∃ c : Nat, l.length ≤ c ∧ u = .t [.o 0 0 l.length c, .c (I 0)] ∧ H = [.arr 3 1 c ((peaksS l cs ch).map fun z => [I z])] := by
  have e1 : (l.map Leg.row).length = l.length := by simp
  refine acalls_of (N := 48) Tryz.func19 rfl rfl (by simp) fun E hE => ?_
  refine WA ?_
  refine WR ?_
  refine al_ef rfl (ef_call0 false (fun _ => fault1_a l cs ch v w (by omega) (by omega)) rfl .fn rfl (by decide) (by kernel_rfl) rfl (fun _ => C0 rfl) (by simp)) ?_
  rintro _ _ ⟨_, _, _, ⟨rfl, rfl⟩, hF, hH⟩
  (try simp only [nsl, Nat.reduceAdd, Nat.reduceLT, Nat.reduceSub] at hF); (try simp only [nsl, Nat.reduceAdd, Nat.reduceLT, Nat.reduceSub] at hH); subst hF; subst hH
  refine WE ?_
  refine WA ?_
  refine aw_cond_f rfl ?_
  obtain ⟨hr, hc⟩ := faultL_ok h0
  have e2 := speedsS_len l cs ch
  refine ZZ ?_
  refine WR ?_
  refine al_ef rfl (ef_call0 false (fun _ => speeds_a l cs ch v w hr hc) rfl .fn rfl (by decide) (by kernel_rfl) rfl (fun _ => C0 rfl) (by simp)) ?_
  rintro _ _ ⟨_, _, _, ⟨vv, rfl, rfl⟩, hF, hH⟩
  (try simp only [nsl, Nat.reduceAdd, Nat.reduceLT, Nat.reduceSub] at hF); (try simp only [nsl, Nat.reduceAdd, Nat.reduceLT, Nat.reduceSub] at hH); subst hF; subst hH
  refine WE ?_
  refine WA ?_
  refine WA ?_
  refine aw_loopw (fun m F H => ∃ (k c : Nat) (p : List Int), m + k = l.length ∧ p = upto (peakL l cs ch) k ∧ p.length ≤ c ∧ F = [(2, .c (I ch)), (9, .c (ints_r vv (speedsS l cs ch))), (10, .o 0 0 p.length c), (24, .c (legs_r v l)), (25, .c (I (l.map Leg.row).length)), (26, .c (I k))] ∧ H = [.arr 3 1 c (p.map fun z => [I z])]) ?_ ?_
  · refine wk_of [none] (fun _ => [(2, .c (I ch)), (9, .c (ints_r vv (speedsS l cs ch))), (10, .o 0 0 ([] : List Int).length 0), (24, .c (legs_r v l)), (25, .c (I (l.map Leg.row).length)), (26, .c (I (0 : Nat)))]) (fun _ => [.arr 3 1 0 (([] : List Int).map fun z => [I z])]) (by decide) (ZNL hE) ZCF ZCH (fun _ => ?_)
    exact ⟨l.length, 0, 0, [], by omega, rfl, Nat.le_refl _, rfl, rfl⟩
  rintro m F H ⟨k, c, p, hk, hp, hpc, rfl, rfl⟩
  have hpl : p.length = k := by rw [hp, upto_len]
  have n2 := hr.le
  refine WA ?_
  refine aw_if rfl (fun hlt => ?_) (fun hge => ?_)
  · obtain ⟨x, hx⟩ : ∃ x, l[k]? = some x := ⟨_, List.getElem?_eq_getElem (by omega)⟩
    have hxd : legD l k = x := getD_of hx
    have hxg := hr.legs x (List.mem_of_getElem? hx)
    have b1 := spdL_b hr ch k (by omega)
    have b2 := spdL_b hr ch (k + 1) (by omega)
    have r1 : (l.map Leg.row)[k]? = some [I x.long, I x.limit] := by rw [List.getElem?_map, hx]; rfl
    have r4 : ((speedsS l cs ch).map fun z => [I z])[k]? = some [I (spdL l cs ch k)] := by rw [List.getElem?_map, speedsS_get (by omega)]; rfl
    have r5 : ((speedsS l cs ch).map fun z => [I z])[k + 1]? = some [I (spdL l cs ch (k + 1))] := by rw [List.getElem?_map, speedsS_get (by omega)]; rfl
    refine WA ?_
    refine ZZ ?_
    refine aw_regionT [(0, none), (1, none), (2, none), (3, none), (4, none), (5, none), (6, none), (7, none), (8, none), (9, none), (10, none), (11, none), (12, some [0]), (13, some [0]), (14, some []), (15, none)] hMixed (by kernel_rfl) ?_
    iterate 7 refine WX2 ?_
    refine ZT rfl (rd_addz (z := ((k + 1 : Nat) : Int)) rfl rfl rfl (by omega) (by omega)) ?_
    refine WP ?_
    refine at_ef rfl rfl (ef_call0 false (fun _ => peak1_a (spdL l cs ch k) (spdL l cs ch (k + 1)) x ch b1 b2 hxg hc) rfl .fn rfl (by decide) (by kernel_rfl) rfl (fun _ => C0 rfl) (by simp)) ?_
    rintro _ _ ⟨_, _, _, ⟨rfl, rfl⟩, hF, hH⟩
    (try simp only [nsl, Nat.reduceAdd, Nat.reduceLT, Nat.reduceSub] at hF); (try simp only [nsl, Nat.reduceAdd, Nat.reduceLT, Nat.reduceSub] at hH); subst hF; subst hH
    refine ⟨ag_cons (by first | exact ag_rd rfl rfl rfl (rd_move rfl rfl) rfl) (ag_none), ?_⟩
    refine WP ?_
    refine at_ef rfl rfl (Zapp (KA (t := 22) rfl)) ?_
    rintro _ _ ⟨_, cc, hcc, rfl, rfl⟩
    refine ⟨ag_none, ?_⟩
    refine WQ ?_
    refine WA ?_
    refine wk_of [some 0] (fun _ => [(2, .c (I ch)), (9, .c (ints_r vv (speedsS l cs ch))), (10, .o 0 0 (p ++ [peakF (spdL l cs ch k) (spdL l cs ch (k + 1)) x ch]).length cc), (24, .c (legs_r v l)), (25, .c (I (l.map Leg.row).length)), (26, .c (I (k + 1 : Nat)))]) (fun _ => _) (by decide) (ZNL hE) ZCF ZCH (fun _ => ?_)
    exact ⟨m - 1, by omega, k + 1, cc, p ++ [peakF (spdL l cs ch k) (spdL l cs ch (k + 1)) x ch], by omega, by rw [← upto_next, hp, peakL, hxd], (by simp; omega), rfl, by rw [List.map_append]; rfl⟩
  obtain rfl : k = l.length := by omega
  refine ZZ ?_
  refine WA ?_
  have hpp : p = peaksS l cs ch := hp
  rw [← hpp]
  exact aret_of (us := [.o 0 0 p.length c, .c (I 0)]) [some 0] (fun _ => .t [.o 0 0 l.length c, .c (I 0)]) (fun _ => [.arr 3 1 c (p.map fun z => [I z])]) (.tmp rfl (.tmp rfl .nil)) (by decide) (ZNK rfl) (fun _ => .tL (.cons (.o rfl hpl) (.cons (.c rfl) .nil))) ZCH (fun _ => ⟨c, by omega, rfl, rfl⟩)
end Go.Proofs.YtdmeohgojdfmoaaGreat

/- Times of legs, and the document's peaks and times, by value. -/
namespace Go.Proofs.YtdmeohgojdfmoaaGreat
open Go Go.RowKit
set_option maxRecDepth 100000
theorem neg_ediv (x b : Int) (h2 : 1 ≤ b) : (-x) / b = if 0 < x % b then -(x / b) - 1 else -(x / b) := by
  have hd := Int.mul_ediv_add_emod x b
  have hr0 := Int.emod_nonneg x (show b ≠ 0 by omega)
  have hr1 := Int.emod_lt_of_pos x (show 0 < b by omega)
  split
  · refine ((Int.ediv_emod_unique (a := -x) (r := b - x % b) (show 0 < b by omega)).2 ⟨?_, by omega, by omega⟩).1
    rw [Int.mul_sub, Int.mul_neg]; omega
  · refine ((Int.ediv_emod_unique (a := -x) (r := 0) (show 0 < b by omega)).2 ⟨?_, by omega, by omega⟩).1
    rw [Int.mul_neg]; omega
theorem gcdI_dvd {num den : Int} (h0 : 0 ≤ num) (h1 : 1 ≤ den) : (gcdI num den : Int) ∣ num ∧ (gcdI num den : Int) ∣ den ∧ 0 < (gcdI num den : Int) := by
  obtain ⟨p, rfl⟩ := Int.eq_ofNat_of_zero_le h0
  obtain ⟨q, rfl⟩ := Int.eq_ofNat_of_zero_le (show 0 ≤ den by omega)
  unfold gcdI
  refine ⟨Int.natCast_dvd_natCast.2 (Nat.gcd_dvd_left _ _), Int.natCast_dvd_natCast.2 (Nat.gcd_dvd_right _ _), ?_⟩
  have := Nat.gcd_pos_of_pos_right p (show 0 < q by omega)
  exact Int.natCast_pos.2 this
theorem low_b {num den : Int} (h0 : 0 ≤ num) (h1 : 1 ≤ den) : 0 ≤ num / gcdI num den ∧ num / gcdI num den ≤ num ∧ 1 ≤ den / gcdI num den ∧ den / gcdI num den ≤ den := by
  obtain ⟨hn, hd, hg⟩ := gcdI_dvd h0 h1
  refine ⟨Int.ediv_nonneg h0 (by omega), Int.ediv_le_self _ h0, ?_, Int.ediv_le_self _ (by omega)⟩
  have := Int.ediv_mul_cancel hd
  have h2 : 0 ≤ den / gcdI num den := Int.ediv_nonneg (by omega) (by omega)
  by_cases h3 : den / (gcdI num den : Int) = 0
  · rw [h3] at this; omega
  · omega
theorem ceil_eq {num den : Int} (h0 : 0 ≤ num) (h1 : 1 ≤ den) : -((-(num / gcdI num den)) / (den / gcdI num den)) = ceilF num den := by
  obtain ⟨hn, hd, hg⟩ := gcdI_dvd h0 h1
  have e1 := Int.mul_ediv_cancel' hn
  have e2 := Int.mul_ediv_cancel' hd
  rw [← Int.mul_ediv_mul_of_pos (-(num / gcdI num den)) (den / gcdI num den) hg, Int.mul_neg, e1, e2, neg_ediv num den h1]
  unfold ceilF
  split <;> omega
theorem times_a (l : List Leg) (cs : List Int) (ch : Int) (v w : Value) (hl : l.length ≤ 1000000) (hcl : cs.length ≤ 1000000) : ACalls Tryz.prog 27 [.c (legs_r v l), .c (ints_r w cs), .c (I ch)] [] fun u H => ∃ v', u = .t [.c (ints_r v' (if faultL l cs ch = 0 then timesS l cs ch else [])), .c (I (faultL l cs ch))] ∧ H = [] := by
  have e1 : (l.map Leg.row).length = l.length := by simp
  refine acalls_of (N := 64) Tryz.func27 rfl rfl (by simp) fun E hE => ?_
  refine WA ?_
  refine WR ?_
  refine al_ef rfl (ef_call0 false (fun _ => fault1_a l cs ch v w (by omega) (by omega)) rfl .fn rfl (by decide) (by kernel_rfl) rfl (fun _ => C0 rfl) (by simp)) ?_
  rintro _ _ ⟨_, _, _, ⟨rfl, rfl⟩, hF, hH⟩
  (try simp only [nsl, Nat.reduceAdd, Nat.reduceLT, Nat.reduceSub] at hF); (try simp only [nsl, Nat.reduceAdd, Nat.reduceLT, Nat.reduceSub] at hH); subst hF; subst hH
  refine WE ?_
  refine WA ?_
  refine aw_if rfl (fun hne => ?_) (fun heq => ?_)
  · refine WA ?_
    exact aret_2 [] _ rfl rfl rfl rfl rfl (by decide) (ZNK rfl) (fun _ => .nil) ⟨_, by rw [if_neg hne]; rfl, rfl⟩
  have h0 : faultL l cs ch = 0 := by omega
  obtain ⟨hr, hc⟩ := faultL_ok h0
  have e2 := speedsS_len l cs ch
  rw [if_pos h0]
  refine ZZ ?_
  refine WR ?_
  refine al_ef rfl (ef_call0 false (fun _ => speeds_a l cs ch v w hr hc) rfl .fn rfl (by decide) (by kernel_rfl) rfl (fun _ => C0 rfl) (by simp)) ?_
  rintro _ _ ⟨_, _, _, ⟨vv, rfl, rfl⟩, hF, hH⟩
  (try simp only [nsl, Nat.reduceAdd, Nat.reduceLT, Nat.reduceSub] at hF); (try simp only [nsl, Nat.reduceAdd, Nat.reduceLT, Nat.reduceSub] at hH); subst hF; subst hH
  refine WE ?_
  refine WA ?_
  refine WA ?_
  refine aw_loopw (fun m F H => ∃ (k c : Nat) (p : List Int), m + k = l.length ∧ p = upto (timeL l cs ch) k ∧ F = [(2, .c (I ch)), (9, .c (ints_r vv (speedsS l cs ch))), (10, .o 0 0 p.length c), (27, .c (legs_r v l)), (28, .c (I (l.map Leg.row).length)), (29, .c (I k))] ∧ H = [.arr 3 1 c (p.map fun z => [I z])]) ?_ ?_
  · refine wk_of [none] (fun _ => [(2, .c (I ch)), (9, .c (ints_r vv (speedsS l cs ch))), (10, .o 0 0 ([] : List Int).length 0), (27, .c (legs_r v l)), (28, .c (I (l.map Leg.row).length)), (29, .c (I (0 : Nat)))]) (fun _ => [.arr 3 1 0 (([] : List Int).map fun z => [I z])]) (by decide) (ZNL hE) ZCF ZCH (fun _ => ?_)
    exact ⟨l.length, 0, 0, [], by omega, rfl, rfl, rfl⟩
  rintro m F H ⟨k, c, p, hk, hp, rfl, rfl⟩
  have hpl : p.length = k := by rw [hp, upto_len]
  have n2 := hr.le
  refine WA ?_
  refine aw_if rfl (fun hlt => ?_) (fun hge => ?_)
  · obtain ⟨x, hx⟩ : ∃ x, l[k]? = some x := ⟨_, List.getElem?_eq_getElem (by omega)⟩
    have hxd : legD l k = x := getD_of hx
    have hxg := hr.legs x (List.mem_of_getElem? hx)
    have b1 := spdL_b hr ch k (by omega)
    have b2 := spdL_b hr ch (k + 1) (by omega)
    have r1 : (l.map Leg.row)[k]? = some [I x.long, I x.limit] := by rw [List.getElem?_map, hx]; rfl
    have r4 : ((speedsS l cs ch).map fun z => [I z])[k]? = some [I (spdL l cs ch k)] := by rw [List.getElem?_map, speedsS_get (by omega)]; rfl
    have r5 : ((speedsS l cs ch).map fun z => [I z])[k + 1]? = some [I (spdL l cs ch (k + 1))] := by rw [List.getElem?_map, speedsS_get (by omega)]; rfl
    have hb := numF_b b1 b2 hxg hc
    have ht : timeL l cs ch k = ceilF (numF (spdL l cs ch k) (spdL l cs ch (k + 1)) x ch) (denF (spdL l cs ch k) (spdL l cs ch (k + 1)) x ch) := by rw [timeL, hxd]
    refine WA ?_
    refine ZZ ?_
    refine aw_regionT [(0, none), (1, none), (2, none), (3, none), (4, none), (5, none), (6, none), (7, none), (8, none), (9, none), (10, none), (11, some []), (12, none), (13, none), (14, none), (15, none), (16, none)] hMixed (by kernel_rfl) ?_
    iterate 6 refine WX2 ?_
    refine ZT rfl (rd_addz (z := ((k + 1 : Nat) : Int)) rfl rfl rfl (by omega) (by omega)) ?_
    refine WP ?_
    refine at_ef rfl rfl (ef_call0 false (fun _ => taken_a (spdL l cs ch k) (spdL l cs ch (k + 1)) x ch b1 b2 hxg hc) rfl .fn rfl (by decide) (by kernel_rfl) rfl (fun _ => C0 rfl) (by simp)) ?_
    rintro _ _ ⟨_, _, _, ⟨rfl, rfl⟩, hF, hH⟩
    (try simp only [nsl, Nat.reduceAdd, Nat.reduceLT, Nat.reduceSub] at hF); (try simp only [nsl, Nat.reduceAdd, Nat.reduceLT, Nat.reduceSub] at hH); subst hF; subst hH
    refine ⟨ag_none, ?_⟩
    refine WQ ?_
    obtain ⟨nu, hnu⟩ : ∃ z, numF (spdL l cs ch k) (spdL l cs ch (k + 1)) x ch = z := ⟨_, rfl⟩
    obtain ⟨de, hde⟩ : ∃ z, denF (spdL l cs ch k) (spdL l cs ch (k + 1)) x ch = z := ⟨_, rfl⟩
    rw [hnu, hde] at hb ht ⊢
    have hq0 : 0 ≤ nu / de := Int.ediv_nonneg hb.1 (by omega)
    have hq1 : nu / de ≤ nu := Int.ediv_le_self de hb.1
    refine WA ?_
    refine WR ?_
    refine al_nil ?_
    refine aseq_n ?_
    refine aw_cut (fun F H => F = [(2, .c (I ch)), (9, .c (ints_r vv (speedsS l cs ch))), (10, .o 0 0 p.length c), (15, .c (I (timeL l cs ch k))), (27, .c (legs_r v l)), (28, .c (I (l.map Leg.row).length)), (29, .c (I k))] ∧ H = [.arr 3 1 c (p.map fun z => [I z])]) ?_ ?_ wk_aw
    · refine aw_if rfl (fun hgt => ?_) (fun hle => ?_)
      · refine WA ?_
        refine wk_of [some 0] (fun _ => [(2, .c (I ch)), (9, .c (ints_r vv (speedsS l cs ch))), (10, .o 0 0 p.length c), (15, .c (I (nu / de + 1))), (27, .c (legs_r v l)), (28, .c (I (l.map Leg.row).length)), (29, .c (I k))]) (fun _ => _) (by decide) (ZNL hE) ZCF ZCH (fun _ => ?_)
        exact ⟨by rw [ht, ceilF, if_pos hgt], rfl⟩
      · refine ZZ ?_
        refine wk_of [some 0] (fun _ => [(2, .c (I ch)), (9, .c (ints_r vv (speedsS l cs ch))), (10, .o 0 0 p.length c), (15, .c (I (nu / de))), (27, .c (legs_r v l)), (28, .c (I (l.map Leg.row).length)), (29, .c (I k))]) (fun _ => _) (by decide) (ZNL hE) ZCF ZCH (fun _ => ?_)
        exact ⟨by rw [ht, ceilF, if_neg hle], rfl⟩
    rintro F H ⟨rfl, rfl⟩
    refine WR ?_
    refine al_ef rfl (Zapp (KA (t := 22) rfl)) ?_
    rintro _ _ ⟨_, cc, hcc, rfl, rfl⟩
    refine WE ?_
    refine WA ?_
    refine wk_of [some 0] (fun _ => [(2, .c (I ch)), (9, .c (ints_r vv (speedsS l cs ch))), (10, .o 0 0 (p ++ [timeL l cs ch k]).length cc), (27, .c (legs_r v l)), (28, .c (I (l.map Leg.row).length)), (29, .c (I (k + 1 : Nat)))]) (fun _ => _) (by decide) (ZNL hE) ZCF ZCH (fun _ => ?_)
    exact ⟨m - 1, by omega, k + 1, cc, p ++ [timeL l cs ch k], by omega, by rw [← upto_next, hp], rfl, by rw [List.map_append]; rfl⟩
  obtain rfl : k = l.length := by omega
  refine ZZ ?_
  refine WA ?_
  exact aret_f2 [] [] rfl rfl rfl rfl rfl rfl (by rw [List.drop_zero, List.take_of_length_le (by simp)]) (by simp) (by decide) (by decide) (ZNK rfl) (fun _ => .nil) (fun v' => ⟨v', by rw [h0, hp]; rfl, rfl⟩)
def sumW (l : List Int) : Int := l.foldl (fun a x => wrap64 (a + x)) 0
theorem sumW_next {l : List Int} {k : Nat} {x : Int} (h : l[k]? = some x) : sumW (l.take (k + 1)) = wrap64 (sumW (l.take k) + x) := by
  rw [take_nextk h, sumW, List.foldl_append]; rfl
theorem total_a (l : List Leg) (cs : List Int) (ch : Int) (v w : Value) (hl : l.length ≤ 1000000) (hcl : cs.length ≤ 1000000) : ACalls Tryz.prog 9 [.c (legs_r v l), .c (ints_r w cs), .c (I ch)] [] fun u H => u = .t [.c (I (sumW (if faultL l cs ch = 0 then timesS l cs ch else []))), .c (I (faultL l cs ch))] ∧ H = [] := by
  refine acalls_of (N := 32) Tryz.func9 rfl rfl (by simp) fun E hE => ?_
  refine WA ?_
  refine WR ?_
  refine al_ef rfl (ef_call0 false (fun _ => times_a l cs ch v w hl hcl) rfl .fn rfl (by decide) (by kernel_rfl) rfl (fun _ => C0 rfl) (by simp)) ?_
  rintro _ _ ⟨_, _, _, ⟨vt, rfl, rfl⟩, hF, hH⟩
  (try simp only [nsl, Nat.reduceAdd, Nat.reduceLT, Nat.reduceSub] at hF); (try simp only [nsl, Nat.reduceAdd, Nat.reduceLT, Nat.reduceSub] at hH); subst hF; subst hH
  refine WE ?_
  obtain ⟨p, hp⟩ : ∃ p, (if faultL l cs ch = 0 then timesS l cs ch else []) = p := ⟨_, rfl⟩
  have hpl : p.length ≤ 1000000 := by
    rw [← hp]; split
    · rw [timesS, upto_len]; exact hl
    · simp
  rw [hp]
  have e1 : (p.map fun z => [I z]).length = p.length := by simp
  refine WA ?_
  refine WA ?_
  refine aw_loopw (fun m F H => ∃ (k : Nat), m + k = p.length ∧ F = [(9, .c (I (faultL l cs ch))), (10, .c (I (sumW (p.take k)))), (20, .c (ints_r vt p)), (21, .c (I (p.map fun z => [I z]).length)), (22, .c (I k))] ∧ H = []) ?_ ?_
  · refine wk_of [] (fun _ => [(9, .c (I (faultL l cs ch))), (10, .c (I 0)), (20, .c (ints_r vt p)), (21, .c (I (p.map fun z => [I z]).length)), (22, .c (I (0 : Nat)))]) (fun _ => _) (by decide) (ZNL hE) ZCF (fun _ => .nil) (fun _ => ?_)
    exact ⟨p.length, 0, by omega, rfl, rfl⟩
  rintro m F H ⟨k, hk, rfl, rfl⟩
  refine WA ?_
  refine aw_if rfl (fun hlt => ?_) (fun hge => ?_)
  · obtain ⟨x, hx⟩ : ∃ x, p[k]? = some x := ⟨_, List.getElem?_eq_getElem (by omega)⟩
    have r1 : (p.map fun z => [I z])[k]? = some [I x] := by rw [List.getElem?_map, hx]; rfl
    refine WA ?_
    refine ZR ?_
    iterate 2 refine WX1 ?_
    refine ZA (rd_add rfl rfl rfl) ?_
    refine WE ?_
    refine WA ?_
    refine wk_of [] (fun _ => [(9, .c (I (faultL l cs ch))), (10, .c (I (wrap64 (sumW (p.take k) + x)))), (20, .c (ints_r vt p)), (21, .c (I (p.map fun z => [I z]).length)), (22, .c (I (k + 1 : Nat)))]) (fun _ => _) (by decide) (ZNL hE) ZCF (fun _ => .nil) (fun _ => ?_)
    exact ⟨m - 1, by omega, k + 1, by omega, by rw [sumW_next hx], rfl⟩
  obtain rfl : k = p.length := by omega
  refine WA ?_
  exact aret_2 [] _ rfl rfl rfl rfl rfl (by decide) (ZNK rfl) (fun _ => .nil) ⟨by rw [List.take_length], rfl⟩
end Go.Proofs.YtdmeohgojdfmoaaGreat
