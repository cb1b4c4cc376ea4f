/- The statement TimesAreLong, a tied card: for every input the law returns true, and the input reads as it did. Conditions: none. -/
import Derived.Test.YtdmeohgojdfmoaaGreatDoorMi
import Derived.Test.YtdmeohgojdfmoaaGreatDoorGy
import Derived.Test.YtdmeohgojdfmoaaGreatDoorMa
import Derived.Test.YtdmeohgojdfmoaaGreatDoorMj
import Derived.Test.YtdmeohgojdfmoaaGreatDoorXy
import Derived.Test.YtdmeohgojdfmoaaGreatDoorKc
set_option linter.unusedSimpArgs false
set_option linter.unusedVariables false
/- Plain law: no leg takes less time than at its peak all the way; what can be braked can be reached, and no more. -/
namespace Go.Proofs.YtdmeohgojdfmoaaGreatDoor
open Go Go.RowKit
theorem ceilF_ge {num den : Int} (h : 0 < den) : num ≤ ceilF num den * den ∧ ceilF num den * den ≤ num + den := by
  have h1 := Int.mul_ediv_add_emod num den
  have h2 := Int.emod_nonneg num (show den ≠ 0 by omega)
  have h3 := Int.emod_lt_of_pos num h
  rw [Int.mul_comm] at h1
  unfold ceilF
  split
  · rw [Int.add_mul]; omega
  · omega
theorem peak_time {f t : Int} {x : Leg} {ch : Int} (h0 : 0 ≤ f ∧ f ≤ 100000) (h1 : 0 ≤ t ∧ t ≤ 100000) (hx : x.good) (hc : 1 ≤ ch ∧ ch ≤ 10000000) :
    x.long * 1000000 ≤ ceilF (numF f t x ch) (denF f t x ch) * peakF f t x ch ∧ ceilF (numF f t x ch) (denF f t x ch) * peakF f t x ch ≤ 9000000000000000000 := by
  have hp := peakF_b (f := f) (t := t) hx hc
  have hd := dis_b hc hx
  have hx' := hx
  obtain ⟨hx1, hx2, hx3, hx4⟩ := hx'
  have hs := sq_b (a := peakF f t x ch - f) (by omega) (by omega)
  have ht := sq_b (a := peakF f t x ch - t) (by omega) (by omega)
  have hpb := prod_b (a := 2 * ch) (b := peakF f t x ch) (A := 20000000) (C := 100000) (by omega) (by omega) (by omega) (by omega)
  have hq : 0 < denF f t x ch := by unfold denF; exact Int.mul_pos (by omega) (by omega)
  obtain ⟨g1, g2⟩ := ceilF_ge (num := numF f t x ch) hq
  generalize hT : ceilF (numF f t x ch) (denF f t x ch) = T at *
  have e1 : T * denF f t x ch = 2 * ch * (T * peakF f t x ch) := by
    unfold denF
    rw [← Int.mul_assoc, Int.mul_comm T (2 * ch), Int.mul_assoc]
  have e2 : 2 * ch * (x.long * 1000000) = 1000000 * (2 * ch * x.long) := by
    rw [← Int.mul_assoc, Int.mul_comm _ (1000000 : Int)]
  have n1 : 1000000 * (2 * ch * x.long) ≤ numF f t x ch := by unfold numF; omega
  have n2 : numF f t x ch ≤ 1000000 * 4020000000000 := by unfold numF; omega
  have n3 : denF f t x ch ≤ 2000000000000 := by unfold denF; omega
  have k1 : x.long * 1000000 ≤ T * peakF f t x ch := by
    refine Int.le_of_mul_le_mul_left (a := 2 * ch) ?_ (by omega)
    rw [e2, ← e1]; omega
  refine ⟨k1, ?_⟩
  have k2 : 1 * (T * peakF f t x ch) ≤ 2 * ch * (T * peakF f t x ch) := Int.mul_le_mul_of_nonneg_right (by omega) (by omega)
  omega
theorem time_long {l : List Leg} {cs : List Int} {ch : Int} (hr : Right l cs) (hc : 1 ≤ ch ∧ ch ≤ 10000000) {k : Nat} {x : Leg} (hx : l[k]? = some x) :
    (1 ≤ peakL l cs ch k ∧ peakL l cs ch k ≤ x.limit) ∧ x.long * 1000000 ≤ timeL l cs ch k * peakL l cs ch k ∧ timeL l cs ch k * peakL l cs ch k ≤ 9000000000000000000 := by
  have hk : k < l.length := (List.getElem?_eq_some_iff.1 hx).1
  have hxd : legD l k = x := by unfold legD; rw [List.getD, hx]; rfl
  have hxg := hr.legs x (List.mem_of_getElem? hx)
  have b1 := spdL_b hr ch k (by omega)
  have b2 := spdL_b hr ch (k + 1) (by omega)
  unfold peakL timeL
  rw [hxd]
  exact ⟨peakF_b hxg hc, peak_time b1 b2 hxg hc⟩
theorem brake_ge {s ch : Int} (hc : 1 ≤ ch) : s * s ≤ brakeF s ch * (2 * ch) ∧ (brakeF s ch - 1) * (2 * ch) < s * s := by
  have h1 := Int.mul_ediv_add_emod (s * s + 2 * ch - 1) (2 * ch)
  have h2 := Int.emod_nonneg (s * s + 2 * ch - 1) (show 2 * ch ≠ 0 by omega)
  have h3 := Int.emod_lt_of_pos (s * s + 2 * ch - 1) (show 0 < 2 * ch by omega)
  rw [Int.mul_comm] at h1
  unfold brakeF
  rw [Int.sub_mul]
  omega
theorem brake_b {s ch : Int} (hs : 1 ≤ s ∧ s ≤ 500) (hc : 1 ≤ ch ∧ ch ≤ 10000000) : 1 ≤ brakeF s ch ∧ brakeF s ch ≤ 200000 := by
  obtain ⟨h1, h2⟩ := brake_ge (s := s) hc.1
  have h3 : 1 * 1 ≤ s * s := sq_le (a := 1) (by omega) hs.1
  have h4 : s * s ≤ 500 * 500 := sq_le (by omega) hs.2
  constructor
  · by_cases h : 1 ≤ brakeF s ch
    · exact h
    · have := Int.mul_nonneg (a := -brakeF s ch) (b := 2 * ch) (by omega) (by omega)
      rw [Int.neg_mul] at this
      omega
  · by_cases h : brakeF s ch ≤ 200000
    · exact h
    · have := Int.mul_le_mul_of_nonneg_right (a := 200000) (b := brakeF s ch - 1) (c := 2 * ch) (by omega) (by omega)
      omega
theorem good_max {n : Int} (h : 1 ≤ n ∧ n ≤ 200000) : (⟨n, 100000⟩ : Leg).good := ⟨h.1, h.2, show (1 : Int) ≤ 100000 by decide, show (100000 : Int) ≤ 100000 by decide⟩
theorem reachV_ok {n ch : Int} (h : 1 ≤ n ∧ n ≤ 200000) (hc : 1 ≤ ch ∧ ch ≤ 10000000) : reachV 0 ⟨n, 100000⟩ ch = 0 := by
  have h1 : oneF ⟨n, 100000⟩ ch = 0 := by
    unfold oneF
    rw [legBad_f (good_max h)]
    show changeF ch = 0
    unfold changeF
    rw [if_pos (by omega)]
  unfold reachV
  rw [if_neg (by omega), if_pos (show (0 : Int) ≤ 0 ∧ (0 : Int) ≤ 100000 by decide)]
theorem reach_all {s n ch : Int} (hs : 1 ≤ s ∧ s ≤ 500) (hc : 1 ≤ ch) (hn : 0 ≤ n) (h : s * s ≤ n * (2 * ch)) : s ≤ reachF 0 ⟨n, 100000⟩ ch := by
  have e : n * (2 * ch) = 2 * ch * n := Int.mul_comm _ _
  have h1 : 0 ≤ 2 * ch * n := Int.mul_nonneg (by omega) hn
  have := le_rootI (n := 0 * 0 + 2 * ch * n) (r := s) (by omega) (by omega)
  unfold reachF rt
  show s ≤ min 100000 (rootI (0 * 0 + 2 * ch * n))
  omega
theorem reach_less {s n ch : Int} (hs : 1 ≤ s ∧ s ≤ 500) (hc : 1 ≤ ch) (hn : 0 ≤ n) (h : n * (2 * ch) < s * s) : reachF 0 ⟨n, 100000⟩ ch < s := by
  have e : n * (2 * ch) = 2 * ch * n := Int.mul_comm _ _
  have h1 : 0 ≤ 2 * ch * n := Int.mul_nonneg (by omega) hn
  have h2 := rootI_le (n := 0 * 0 + 2 * ch * n) (by omega)
  have := sq_lt (a := rootI (0 * 0 + 2 * ch * n)) (b := s) (by omega) (by omega)
  unfold reachF rt
  show min 100000 (rootI (0 * 0 + 2 * ch * n)) < s
  omega
theorem firstK_pp (p : Int) : firstK [p, p] = p := by
  by_cases h : p = 0 <;> simp [firstK, h]
theorem firstK_fault (l : List Leg) (cs : List Int) (ch : Int) : firstK [cornersF l cs, changeF ch] = faultL l cs ch := by
  simp only [firstK, faultL, changeF]
  split <;> first | rfl | (split <;> first | rfl | (simp_all; done))
theorem upto_get {f : Nat → Int} {k n : Nat} (h : k < n) : (upto f n)[k]? = some (f k) := by
  simp [upto, h]
end Go.Proofs.YtdmeohgojdfmoaaGreatDoor

/- The law TimesAreLong, walked. -/
namespace Go.Proofs.YtdmeohgojdfmoaaGreatDoor
open Go Go.RowKit
set_option maxRecDepth 100000
theorem law_long (v : Value) (zs : List Int) (hs : StrOk zs) : ACalls Tryz.prog 3 [.c (.r v (zs.map fun z => [I z]))] [] fun u H => u = .c (B true) := by
  refine acalls_of (N := 163) Tryz.func3 rfl rfl (by simp) fun E hE => ?_
  refine WA ?_
  refine WA ?_
  refine WR ?_
  refine al_ef rfl (ef_callm false (fun _ => leglist_a 6 v zs _ hs (by omega) (by omega) (by omega) (by omega)) rfl .fn rfl (by decide) (by kernel_rfl) rfl rfl (fun _g => .cons (.p rfl) (.cons (.c rfl) .nil)) (fun _g => .cons (.c rfl) (.cons (.c rfl) .nil)) (by simp)) ?_
  rintro F1 H1 ⟨_, _, _, _, ⟨vl, l, al, rfl, hq, hl1, hl2, hl3⟩, hF, hH⟩
  injection hq with hq1 hq2; subst hq1; subst hq2
  (try simp only [nsl, Nat.reduceAdd, Nat.reduceLT, Nat.reduceSub] at hF); (try simp only [nsl, Nat.reduceAdd, Nat.reduceLT, Nat.reduceSub] at hH); subst hF; subst hH
  have e1 : (l.map Leg.row).length = l.length := by simp
  refine WE ?_
  refine WR ?_
  refine al_ef rfl (ef_callm false (fun _ => cornerlist_a (l.map Leg.row).length v zs _ hs (by omega) (by omega) (by omega) (by omega)) rfl .fn rfl (by decide) (by kernel_rfl) rfl rfl (fun _g => .cons (.p rfl) (.cons (.c rfl) .nil)) (fun _g => .cons (.c rfl) (.cons (.c rfl) .nil)) (by simp)) ?_
  rintro F1 H1 ⟨_, _, _, _, ⟨vc, cs, ac, rfl, hq, hc1, hc2, hc3⟩, hF, hH⟩
  injection hq with hq1 hq2; subst hq1; subst hq2
  (try simp only [nsl, Nat.reduceAdd, Nat.reduceLT, Nat.reduceSub] at hF); (try simp only [nsl, Nat.reduceAdd, Nat.reduceLT, Nat.reduceSub] at hH); subst hF; subst hH
  refine WO ?_
  refine al_ef rfl (ef_callm false (fun _ => change_a v zs _ hs (by omega) (by omega)) rfl .fn rfl (by decide) (by kernel_rfl) rfl rfl (fun _g => .cons (.p rfl) .nil) (fun _g => .cons (.c rfl) (.cons (.c rfl) .nil)) (by simp)) ?_
  rintro F1 H1 ⟨_, _, _, _, ⟨ch, rfl, hq, hch⟩, hF, hH⟩
  injection hq with hq1 hq2; subst hq1; subst hq2
  (try simp only [nsl, Nat.reduceAdd, Nat.reduceLT, Nat.reduceSub] at hF); (try simp only [nsl, Nat.reduceAdd, Nat.reduceLT, Nat.reduceSub] at hH); subst hF; subst hH
  refine WE ?_
  obtain ⟨Pa, hPa⟩ : ∃ W, W = (if faultL l cs ch = 0 then peaksS l cs ch else []) := ⟨_, rfl⟩
  obtain ⟨Ta, hTa⟩ : ∃ W, W = (if faultL l cs ch = 0 then timesS l cs ch else []) := ⟨_, rfl⟩
  obtain ⟨p1, hp1⟩ : ∃ p, p = faultL l cs ch := ⟨_, rfl⟩
  have hWl : Pa.length ≤ 1000 ∧ Ta.length ≤ 1000 := by
    rw [hPa, hTa]
    split
    · rw [peaksS, timesS, upto_len, upto_len]; omega
    · simp
  refine WR ?_
  refine al_ef rfl (ef_call0 false (fun _ => times_a l cs ch vl vc (by omega) (by omega)) rfl .fn rfl (by decide) (by kernel_rfl) rfl (fun _ => C0 rfl) (by simp)) ?_
  rintro _ _ ⟨_, _, _, ⟨vt, rfl, rfl⟩, hF, hH⟩
  rw [← hTa, ← hp1] at hF
  (try simp only [nsl, Nat.reduceAdd, Nat.reduceLT, Nat.reduceSub] at hF); (try simp only [nsl, Nat.reduceAdd, Nat.reduceLT, Nat.reduceSub] at hH); subst hF; subst hH
  refine WE ?_
  refine WR ?_
  refine al_ef rfl (ef_call0 false (fun _ => peaks_a l cs ch vl vc (by omega) (by omega)) rfl .fn rfl (by decide) (by kernel_rfl) rfl (fun _ => C0 rfl) (by simp)) ?_
  rintro _ _ ⟨_, _, _, ⟨va, rfl, rfl⟩, hF, hH⟩
  rw [← hPa, ← hp1] at hF
  (try simp only [nsl, Nat.reduceAdd, Nat.reduceLT, Nat.reduceSub] at hF); (try simp only [nsl, Nat.reduceAdd, Nat.reduceLT, Nat.reduceSub] at hH); subst hF; subst hH
  refine WE ?_
  refine WR ?_
  refine al_ef rfl (ef_call0 true (fun _ => errsp_a [p1, p1] _ (by simp)) rfl .fn rfl (by decide) (by kernel_rfl) rfl (fun _g => .cons (.frz rfl rfl rfl rfl rfl) .nil) (fun _ _ _ _ ⟨hu, hH⟩ => by rw [hu, hH]; exact ⟨.c (.inl trivial), by simp⟩)) ?_
  rintro _ _ ⟨_, _, _, ⟨rfl, rfl⟩, hF, hH⟩
  rw [firstK_pp p1] at hF
  (try simp only [nsl, Nat.reduceAdd, Nat.reduceLT, Nat.reduceSub] at hF); (try simp only [nsl, Nat.reduceAdd, Nat.reduceLT, Nat.reduceSub] at hH); subst hF; subst hH
  refine WE ?_
  refine aw_if rfl (fun hne => ?_) (fun h0 => ?_)
  · refine WR ?_
    refine al_ef rfl (ef_call0 false (fun _ => corners2_a l cs vl vc (by omega) (by omega)) rfl .fn rfl (by decide) (by kernel_rfl) rfl (fun _ => C0 rfl) (by simp)) ?_
    rintro _ _ ⟨_, _, _, ⟨rfl, rfl⟩, hF, hH⟩
    (try simp only [nsl, Nat.reduceAdd, Nat.reduceLT, Nat.reduceSub] at hF); (try simp only [nsl, Nat.reduceAdd, Nat.reduceLT, Nat.reduceSub] at hH); subst hF; subst hH
    refine WO ?_
    refine al_ef rfl (ef_call0 false (fun _ => change2_a _) rfl .fn rfl (by decide) (by kernel_rfl) rfl (fun _ => C0 rfl) (by simp)) ?_
    rintro _ _ ⟨_, _, _, ⟨rfl, rfl⟩, hF, hH⟩
    (try simp only [nsl, Nat.reduceAdd, Nat.reduceLT, Nat.reduceSub] at hF); (try simp only [nsl, Nat.reduceAdd, Nat.reduceLT, Nat.reduceSub] at hH); subst hF; subst hH
    refine WO ?_
    refine al_ef rfl (ef_call0 true (fun _ => errsp_a [cornersF l cs, changeF ch] _ (by simp)) rfl .fn rfl (by decide) (by kernel_rfl) rfl (fun _g => .cons (.frz rfl rfl rfl rfl rfl) .nil) (fun _ _ _ _ ⟨hu, hH⟩ => by rw [hu, hH]; exact ⟨.c (.inl trivial), by simp⟩)) ?_
    rintro _ _ ⟨_, _, _, ⟨rfl, rfl⟩, hF, hH⟩
    rw [firstK_fault l cs ch, ← hp1] at hF
    (try simp only [nsl, Nat.reduceAdd, Nat.reduceLT, Nat.reduceSub] at hF); (try simp only [nsl, Nat.reduceAdd, Nat.reduceLT, Nat.reduceSub] at hH); subst hF; subst hH
    refine WO ?_
    refine al_ef rfl (ef_call0 true (fun _ => errsp_a [p1, p1] _ (by simp)) rfl .fn rfl (by decide) (by kernel_rfl) rfl (fun _g => .cons (.frz rfl rfl rfl rfl rfl) .nil) (fun _ _ _ _ ⟨hu, hH⟩ => by rw [hu, hH]; exact ⟨.c (.inl trivial), by simp⟩)) ?_
    rintro _ _ ⟨_, _, _, ⟨rfl, rfl⟩, hF, hH⟩
    rw [firstK_pp p1] at hF
    (try simp only [nsl, Nat.reduceAdd, Nat.reduceLT, Nat.reduceSub] at hF); (try simp only [nsl, Nat.reduceAdd, Nat.reduceLT, Nat.reduceSub] at hH); subst hF; subst hH
    refine WO ?_
    first | refine ZS ?_ | (refine G1 rfl ?_; refine al_ef rfl (ef_call0 false (fun _ => ready_a) rfl .fn rfl (by decide) (by kernel_rfl) rfl (fun _ => C0 rfl) (by simp)) ?_; rintro _ _ ⟨_, _, _, ⟨rfl, rfl⟩, hF, hH⟩; (try simp only [nsl, Nat.reduceAdd, Nat.reduceLT, Nat.reduceSub] at hF); (try simp only [nsl, Nat.reduceAdd, Nat.reduceLT, Nat.reduceSub] at hH); subst hF; subst hH) | skip
    refine WE ?_
    exact aret_1 [] _ rfl rfl rfl (by decide) (ZNK rfl) (fun _ => .nil) rfl
  obtain ⟨hr, hch'⟩ := faultL_ok (l := l) (cs := cs) (ch := ch) (by omega)
  obtain rfl : Pa = peaksS l cs ch := by rw [hPa, if_pos (by omega)]
  obtain rfl : Ta = timesS l cs ch := by rw [hTa, if_pos (by omega)]
  have e1 : (l.map Leg.row).length = l.length := by simp
  have e2 : ((peaksS l cs ch).map fun z => [I z]).length = l.length := by simp [peaksS, upto_len]
  have e3 : ((timesS l cs ch).map fun z => [I z]).length = l.length := by simp [timesS, upto_len]
  refine ZZ ?_
  refine WA ?_
  refine aw_loopw (fun m F H => ∃ (k : Nat) (a' : Int), m + k = l.length ∧ 0 ≤ a' ∧ a' ≤ 1000 ∧ F = [(3, .p 0 0 0), (4, .c (legs_r vl l)), (6, .c (I ch)), (9, .c (ints_r va (peaksS l cs ch))), (65, .c (ints_r vt (timesS l cs ch))), (66, .c (I ((timesS l cs ch).map fun z => [I z]).length)), (67, .c (I k))] ∧ H = [strm v zs a']) ?_ ?_
  · refine wk_of [some 0] (fun _ => [(3, .p 0 0 0), (4, .c (legs_r vl l)), (6, .c (I ch)), (9, .c (ints_r va (peaksS l cs ch))), (65, .c (ints_r vt (timesS l cs ch))), (66, .c (I ((timesS l cs ch).map fun z => [I z]).length)), (67, .c (I (0 : Nat)))]) (fun _ => [strm v zs _]) (by decide) (ZNL hE) ZCF ZCH (fun _ => ?_)
    exact ⟨l.length, 0, _, by omega, (by omega), (by omega), rfl, rfl⟩
  rintro m F H ⟨k, a', hk, ha1, ha2, rfl, rfl⟩
  refine WA ?_
  refine aw_if rfl (fun hlt => ?_) (fun hge => ?_)
  · obtain ⟨x, hx⟩ : ∃ x, l[k]? = some x := ⟨_, List.getElem?_eq_getElem (by omega)⟩
    have r1 : (l.map Leg.row)[k]? = some [I x.long, I x.limit] := by rw [List.getElem?_map, hx]; rfl
    have r2 : ((peaksS l cs ch).map fun z => [I z])[k]? = some [I (peakL l cs ch k)] := by rw [List.getElem?_map, peaksS, upto_get (by omega)]; rfl
    have r3 : ((timesS l cs ch).map fun z => [I z])[k]? = some [I (timeL l cs ch k)] := by rw [List.getElem?_map, timesS, upto_get (by omega)]; rfl
    obtain ⟨⟨g1, g2⟩, g3, g4⟩ := time_long (ch := ch) hr hch' hx
    obtain ⟨hx1, hx2, hx3, hx4⟩ := hr.legs x (List.mem_of_getElem? hx)
    generalize peakL l cs ch k = p at *
    generalize timeL l cs ch k = t at *
    refine WA ?_
    refine ZZ ?_
    refine aw_regionT [(0, none), (1, none), (2, none), (3, none), (4, none), (5, none), (6, none), (7, none), (8, none), (9, none), (10, none), (11, none), (12, none), (13, none), (14, none), (15, none), (16, none), (17, none), (18, none), (19, none), (20, none), (21, none), (22, none), (23, none), (24, none), (25, none), (26, none), (27, none), (28, none), (29, none), (30, none), (31, none)] hMixed (by kernel_rfl) ?_
    refine WQ ?_
    refine aw_cond_f rfl ?_
    refine ZZ ?_
    refine WA ?_
    refine wk_of [some 0] (fun _ => [(3, .p 0 0 0), (4, .c (legs_r vl l)), (6, .c (I ch)), (9, .c (ints_r va (peaksS l cs ch))), (65, .c (ints_r vt (timesS l cs ch))), (66, .c (I ((timesS l cs ch).map fun z => [I z]).length)), (67, .c (I (k + 1 : Nat)))]) (fun _ => _) (by decide) (ZNL hE) ZCF ZCH (fun _ => ?_)
    exact ⟨m - 1, by omega, k + 1, a', by omega, ha1, ha2, rfl, rfl⟩
  refine ZZ ?_
  refine WR ?_
  refine al_ef rfl (ef_callm false (fun _ => range_a 1 500 _ _ _ hs (by omega) (by omega) (by omega) (by omega) (by omega) (by omega)) rfl .fn rfl (by decide) (by kernel_rfl) rfl rfl (fun _g => .cons (.p rfl) (.cons (.c rfl) (.cons (.c rfl) .nil))) (fun _g => .cons (.c rfl) (.cons (.c rfl) .nil)) (by simp)) ?_
  rintro F1 H1 ⟨_, _, _, _, ⟨rr, ar, rfl, hq, hr3, hr4, hr1, hr2, _⟩, hF, hH⟩
  injection hq with hq1 hq2; subst hq1; subst hq2
  (try simp only [nsl, Nat.reduceAdd, Nat.reduceLT, Nat.reduceSub] at hF); (try simp only [nsl, Nat.reduceAdd, Nat.reduceLT, Nat.reduceSub] at hH); subst hF; subst hH
  have h64r : in64 rr := by simp only [in64]; omega
  refine WE ?_
  have hbv : brakeV rr ch = 0 := by
    unfold brakeV changeF
    rw [if_pos (by omega), if_pos (by omega)]
  obtain ⟨n, hn⟩ : ∃ n, n = brakeF rr ch := ⟨_, rfl⟩
  have hnb := brake_b (s := rr) (ch := ch) (by omega) hch'
  obtain ⟨hg1, hg2⟩ := brake_ge (s := rr) (ch := ch) hch'.1
  rw [← hn] at hnb hg1 hg2
  have hr1' := reachV_ok (n := n) (ch := ch) hnb hch'
  have hra := reach_all (s := rr) (n := n) (ch := ch) (by omega) hch'.1 (by omega) hg1
  have hrb := reach_less (s := rr) (n := n - 1) (ch := ch) (by omega) hch'.1 (by omega) hg2
  generalize hX : reachF 0 ⟨n, 100000⟩ ch = X at *
  generalize hY : reachF 0 ⟨n - 1, 100000⟩ ch = Y at *
  refine WR ?_
  refine al_ef rfl (ef_call0 false (fun _ => brake_a rr ch) rfl .fn rfl (by decide) (by kernel_rfl) rfl (fun _ => C0 rfl) (by simp)) ?_
  rintro _ _ ⟨_, _, _, ⟨rfl, rfl⟩, hF, hH⟩
  rw [hbv, if_pos rfl, ← hn] at hF
  (try simp only [nsl, Nat.reduceAdd, Nat.reduceLT, Nat.reduceSub] at hF); (try simp only [nsl, Nat.reduceAdd, Nat.reduceLT, Nat.reduceSub] at hH); subst hF; subst hH
  refine WE ?_
  refine WA ?_
  refine aw_cond_f rfl ?_
  refine ZZ ?_
  refine WR ?_
  refine al_ef rfl (ef_call0 false (fun _ => reached_a 0 ⟨n, 100000⟩ ch) rfl .fn rfl (by decide) (by kernel_rfl) rfl (fun _ => C0 rfl) (by simp)) ?_
  rintro _ _ ⟨_, _, _, ⟨rfl, rfl⟩, hF, hH⟩
  rw [hr1', hX, if_pos rfl] at hF
  (try simp only [nsl, Nat.reduceAdd, Nat.reduceLT, Nat.reduceSub] at hF); (try simp only [nsl, Nat.reduceAdd, Nat.reduceLT, Nat.reduceSub] at hH); subst hF; subst hH
  refine WE ?_
  refine WA ?_
  refine aw_cond_f rfl ?_
  refine ZZ ?_
  refine WA ?_
  refine aw_if rfl (fun hgt => ?_) (fun hle => ?_)
  · have hr2' := reachV_ok (n := n - 1) (ch := ch) (by omega) hch'
    refine WR ?_
    refine al_ef rfl (ef_call0 false (fun _ => reached_a 0 ⟨n - 1, 100000⟩ ch) rfl .fn rfl (by decide) (by kernel_rfl) rfl (fun _ => C0 rfl) (by simp)) ?_
    rintro _ _ ⟨_, _, _, ⟨rfl, rfl⟩, hF, hH⟩
    rw [hr2', hY, if_pos rfl] at hF
    (try simp only [nsl, Nat.reduceAdd, Nat.reduceLT, Nat.reduceSub] at hF); (try simp only [nsl, Nat.reduceAdd, Nat.reduceLT, Nat.reduceSub] at hH); subst hF; subst hH
    refine WE ?_
    refine WR ?_
    first | refine ZS ?_ | (refine G1 rfl ?_; refine al_ef rfl (ef_call0 false (fun _ => ready_a) rfl .fn rfl (by decide) (by kernel_rfl) rfl (fun _ => C0 rfl) (by simp)) ?_; rintro _ _ ⟨_, _, _, ⟨rfl, rfl⟩, hF, hH⟩; (try simp only [nsl, Nat.reduceAdd, Nat.reduceLT, Nat.reduceSub] at hF); (try simp only [nsl, Nat.reduceAdd, Nat.reduceLT, Nat.reduceSub] at hH); subst hF; subst hH) | skip
    refine WE ?_
    exact aret_1 [] _ rfl rfl rfl (by decide) (ZNK rfl) (fun _ => .nil) rfl
  refine ZZ ?_
  refine ZR ?_
  refine al_ef rfl (ef_call0 false (fun _ => ready_a) rfl .fn rfl (by decide) (by kernel_rfl) rfl (fun _ => C0 rfl) (by simp)) ?_
  rintro _ _ ⟨_, _, _, ⟨rfl, rfl⟩, hF, hH⟩
  (try simp only [nsl, Nat.reduceAdd, Nat.reduceLT, Nat.reduceSub] at hF); (try simp only [nsl, Nat.reduceAdd, Nat.reduceLT, Nat.reduceSub] at hH); subst hF; subst hH
  refine WE ?_
  exact aret_1 [] _ rfl rfl rfl (by decide) (ZNK rfl) (fun _ => .nil) rfl
end Go.Proofs.YtdmeohgojdfmoaaGreatDoor

/- The statement TimesAreLong, a tied card: for every input the law returns true, and the input reads as it did. Conditions: none. -/
namespace Go.Proofs.YtdmeohgojdfmoaaGreatDoor
open Go Go.ChangeShapes Go.WideShapes Go.ChangeAt Go.RowKit
set_option maxRecDepth 100000
theorem timesAreLong_contract (H : Type) (enc : TypeId × Value → H) (W : World) (base : Nat) (args : Array Value) (ds gs : List (DataW H)) (before : List MemPlace)
    (hval : ∀ (j : Nat) t v, Tryz.f3.params[j]? = some t → args[j]? = some v → Value.okWide Tryz.prog W .any base t v)
    (hW : DataW.Whole enc Tryz.prog Tryz.f3.params.toList Rows.timesAreLongSpec.vars false W args.toList ds gs before) :
    Calls Tryz.prog 3 args W fun e W' => ∃ v, e = .returned v ∧ Rows.timesAreLongSpec.post enc Tryz.prog Tryz.f3 false true false false W args v W' := by
  have hW' := hW
  obtain ⟨p, q, hA0, hV, rfl, hfz, hnd⟩ := hW
  have hA : DataW.TrodAll enc Tryz.prog W 0 (fun _ => true) true Tryz.f3.params.toList args.toList ds p := hA0
  rw [Tryz.params3] at hA hval
  obtain ⟨v0, d0, rfl, rfl, h0⟩ := trodAll_one hA
  obtain ⟨rfl, rfl⟩ := trodVars_none hV
  obtain ⟨A, len, cap, rfl⟩ := okWide_slice Tryz.underlying22 (hval 0 22 v0 rfl rfl)
  obtain ⟨fuel, hf⟩ := h0
  obtain ⟨zs, hs, hg⟩ := arg_ints hf
  refine (law_long (.slice A len cap) zs hs (fun b => b < W.heap.size) [] W (rh_none W) (fun x hx => by rw [List.mem_singleton.1 hx]; exact .c hg)).mono ?_
  rintro e W' ⟨u, H', ρ', S', rfl, rfl, -, -, hst, -⟩
  refine ⟨_, rfl, [d0], [], p ++ [], [], p, [], hW', trodAll_mk1 (shut_bool Tryz.underlying4 true), ?_, by exact rfl, kept_all hst, fun h => by cases h⟩
  refine trodAll_mk1 ⟨fuel, DataW.trod_stays Tryz.kids (fun {t e} => Tryz.full t e) (fun h => by cases h) (of_decide_eq_true (by kernel_rfl)) hf (fun q hq => same_all hst ?_) (fun q hq => ?_)⟩
  · exact hW'.lt q (by simpa using hq)
  · exact decide_eq_true (hW'.lt q (by simpa using hq))
theorem timesAreLong_t0 : Tryz.checked.prog.inits.idxOf? 3 = none := by kernel_rfl
theorem timesAreLong_t1 (os : Os) : Input.okWideB Tryz.checked.prog ((World.laidAll Tryz.prog os laidL).forCall (fun _ _ => 0) ⟨#[], #[.slice none 0 0], []⟩) 3 ⟨#[], #[.slice none 0 0], []⟩ = true := by kernel_rfl
theorem timesAreLong_t2 (H : Type) (enc : TypeId × Value → H) (os : Os) : Rows.timesAreLongSpec.preB enc Tryz.checked.prog Tryz.f3 Rows.timesAreLongRow.domain false ((World.laidAll Tryz.prog os laidL).forCall (fun _ _ => 0) ⟨#[], #[.slice none 0 0], []⟩).memory #[.slice none 0 0] 8 = true := by kernel_rfl
theorem timesAreLong_t3 (H : Type) (enc : TypeId × Value → H) (os : Os) : Rows.timesAreLongSpec.sizedB enc Tryz.checked.prog Tryz.f3 false ((World.laidAll Tryz.prog os laidL).forCall (fun _ _ => 0) ⟨#[], #[.slice none 0 0], []⟩).memory #[.slice none 0 0] 8 = true := by kernel_rfl
set_option maxRecDepth 100000 in
theorem timesAreLong_lifted (os : Os) (started : os.Started) (H : Type) (enc : TypeId × Value → H) :
    ReturnsInHanded {} Tryz.checked os 3 .any (fun w args => (Rows.timesAreLongSpec.pre enc Tryz.prog Tryz.f3 Rows.timesAreLongRow.domain false w args ∧ laidMetH Tryz.prog laidL w) ∧ sizedMet enc Tryz.prog Tryz.f3 (OpenSpec.ofChange Rows.timesAreLongSpec) false w args)
      (Rows.timesAreLongSpec.post enc Tryz.prog Tryz.f3 false true false false) := by
  refine returnsInHanded_of_change_and (C := Tryz.checked) (X := fun w _ => laidMetH Tryz.prog laidL w) (fun _ _ _ hh h => h.of_heap hh) Tryz.own started timesAreLong_t0 Tryz.func3
    (ChangeSpec.witness_shaped (enc := enc) (C := Tryz.checked) (os := os) (X := fun w _ => laidMetH Tryz.prog laidL w) false (World.laidAll Tryz.prog os laidL) #[.slice none 0 0] 8 (World.laidAll_os _ _ _)
      (laid_shaped os) (timesAreLong_t1 os) (timesAreLong_t2 H enc os) (timesAreLong_t3 H enc os) (laid_met os)) ?_
  intro W base args ds gs before hval hW _ _ _ _
  exact timesAreLong_contract H enc W base args ds gs before hval hW
theorem timesAreLong_k1 : (Rows.timesAreLongRow.inPlace == Tryz.pinned.checked.prog.inPlace 3) = true := by kernel_rfl
theorem timesAreLong_k2 : (Rows.timesAreLongRow.unfollowed == Tryz.pinned.checked.prog.unfollowed 3) = true := by kernel_rfl
theorem timesAreLong_k3 : (Rows.timesAreLongRow.recurses == Tryz.pinned.checked.prog.recurses 3) = true := by kernel_rfl
theorem timesAreLong_k4 : (Rows.timesAreLongRow.named == Tryz.pinned.checked.prog.varsNamed 3) = true := by kernel_rfl
theorem timesAreLong_k5 : (Rows.timesAreLongRow.lifted == Tryz.pinned.checked.prog.liftsFinal) = true := by kernel_rfl
theorem timesAreLong_k6 : (Tryz.pinned.checked.prog.make == some Rows.timesAreLongRow.make) = true := by kernel_rfl
theorem timesAreLong_facts : joinedFacts Tryz.pinned.checked.prog 3 Tryz.f3 Rows.timesAreLongSpec Rows.timesAreLongRow = true := by
  unfold joinedFacts
  rw [kc_laidOut, kc_mapsRowed, kc_heard, kc_enter, timesAreLong_k1, timesAreLong_k2, timesAreLong_k3, timesAreLong_k4, timesAreLong_k5, timesAreLong_k6]
  kernel_rfl
theorem timesAreLong_named : Tryz.pinned.checked.prog.funcNamed Rows.timesAreLongRow.func = some 3 := by kernel_rfl
theorem timesAreLong_inst : Tryz.f3.isInstance Tryz.pinned.checked.prog Rows.timesAreLongRow.origin Rows.timesAreLongRow.targs := of_decide_eq_true (by kernel_rfl)
theorem timesAreLong_wrap : Tryz.f3.isWrapper Tryz.pinned.checked.prog Rows.timesAreLongRow.wrapper Rows.timesAreLongRow.mainSum := by unfold Func.isWrapper; first | (rw [if_pos (by decide +kernel)]; kernel_rfl) | (rw [if_neg (by decide +kernel)]; exact ⟨rfl, rfl⟩)
theorem timesAreLong_main : Tryz.pinned.checked.prog.mainIs = some (Rows.timesAreLongCard.stood.harness.1, Rows.timesAreLongCard.stood.harness.2.toList) := by kernel_rfl
theorem timesAreLong_goes : false = Rows.timesAreLongRow.goesBy Tryz.pinned.checked.prog := by kernel_rfl
theorem timesAreLong_wf : Rows.timesAreLongRow.wfByText (OpenSpec.ofChange Rows.timesAreLongSpec) = true := by kernel_rfl
theorem timesAreLong_row : Rows.TimesAreLongSaid :=
  OpenClaim.holds_of_wide 3 Tryz.f3 rfl rfl rfl rfl rfl rfl rfl ⟨rfl, rfl, rfl, rfl, rfl⟩ rfl rfl rfl rfl rfl timesAreLong_named Tryz.func3 timesAreLong_facts timesAreLong_inst timesAreLong_wrap
    (fun os started H enc _ => timesAreLong_lifted os started H enc)
theorem timesAreLong_holds : Rows.TimesAreLongCardSaid :=
  Claim7.holds_tied_plain_at .later [] [.data, .pinned] true Rows.timesAreLongCard.stood.harness false timesAreLong_row (fun _ h => by cases h) timesAreLong_wf (fun _ h => by cases h) timesAreLong_row_tie rfl ⟨rfl, rfl⟩ timesAreLong_main rfl
    (fun f fn hf hfn => by
      obtain rfl : f = 3 := Option.some.inj (timesAreLong_named.symm.trans hf) |>.symm
      obtain rfl : fn = Tryz.f3 := (Option.some.inj (Tryz.func3.symm.trans hfn)).symm
      exact ⟨kc_looks, fun j t ht => by
        rw [Tryz.params3] at ht
        have hm : t ∈ [22] := by simpa using Array.mem_of_getElem? ht
        have hall : ([22].all fun u => !Tryz.prog.wantsStandIn u) = true := by kernel_rfl
        exact (show Tryz.prog.wantsStandIn t = false by simpa using List.all_eq_true.1 hall t hm)⟩)
    timesAreLong_goes
end Go.Proofs.YtdmeohgojdfmoaaGreatDoor
