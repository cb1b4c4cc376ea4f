/- The statement BothWaysAreSame, a tied card: for every input the law returns true, and the input reads as it did. Conditions: none. -/
import Derived.Test.YtdmeohgojdfmoaaGreatDoorMi
import Derived.Test.YtdmeohgojdfmoaaGreatDoorGy
import Derived.Test.YtdmeohgojdfmoaaGreatDoorMj
import Derived.Test.YtdmeohgojdfmoaaGreatDoorMa
import Derived.Test.YtdmeohgojdfmoaaGreatDoorNb
import Derived.Test.YtdmeohgojdfmoaaGreatDoorXy
import Derived.Test.YtdmeohgojdfmoaaGreatDoorKc
set_option linter.unusedSimpArgs false
set_option linter.unusedVariables false
/- Plain law: no leg takes less time than at its peak all the way; what can be braked can be reached, and no more. -/
namespace Go.Proofs.YtdmeohgojdfmoaaGreatDoor
open Go Go.RowKit
theorem ceilF_ge {num den : Int} (h : 0 < den) : num ≤ ceilF num den * den ∧ ceilF num den * den ≤ num + den := by
  have h1 := Int.mul_ediv_add_emod num den
  have h2 := Int.emod_nonneg num (show den ≠ 0 by omega)
  have h3 := Int.emod_lt_of_pos num h
  rw [Int.mul_comm] at h1
  unfold ceilF
  split
  · rw [Int.add_mul]; omega
  · omega
theorem peak_time {f t : Int} {x : Leg} {ch : Int} (h0 : 0 ≤ f ∧ f ≤ 100000) (h1 : 0 ≤ t ∧ t ≤ 100000) (hx : x.good) (hc : 1 ≤ ch ∧ ch ≤ 10000000) :
    x.long * 1000000 ≤ ceilF (numF f t x ch) (denF f t x ch) * peakF f t x ch ∧ ceilF (numF f t x ch) (denF f t x ch) * peakF f t x ch ≤ 9000000000000000000 := by
  have hp := peakF_b (f := f) (t := t) hx hc
  have hd := dis_b hc hx
  have hx' := hx
  obtain ⟨hx1, hx2, hx3, hx4⟩ := hx'
  have hs := sq_b (a := peakF f t x ch - f) (by omega) (by omega)
  have ht := sq_b (a := peakF f t x ch - t) (by omega) (by omega)
  have hpb := prod_b (a := 2 * ch) (b := peakF f t x ch) (A := 20000000) (C := 100000) (by omega) (by omega) (by omega) (by omega)
  have hq : 0 < denF f t x ch := by unfold denF; exact Int.mul_pos (by omega) (by omega)
  obtain ⟨g1, g2⟩ := ceilF_ge (num := numF f t x ch) hq
  generalize hT : ceilF (numF f t x ch) (denF f t x ch) = T at *
  have e1 : T * denF f t x ch = 2 * ch * (T * peakF f t x ch) := by
    unfold denF
    rw [← Int.mul_assoc, Int.mul_comm T (2 * ch), Int.mul_assoc]
  have e2 : 2 * ch * (x.long * 1000000) = 1000000 * (2 * ch * x.long) := by
    rw [← Int.mul_assoc, Int.mul_comm _ (1000000 : Int)]
  have n1 : 1000000 * (2 * ch * x.long) ≤ numF f t x ch := by unfold numF; omega
  have n2 : numF f t x ch ≤ 1000000 * 4020000000000 := by unfold numF; omega
  have n3 : denF f t x ch ≤ 2000000000000 := by unfold denF; omega
  have k1 : x.long * 1000000 ≤ T * peakF f t x ch := by
    refine Int.le_of_mul_le_mul_left (a := 2 * ch) ?_ (by omega)
    rw [e2, ← e1]; omega
  refine ⟨k1, ?_⟩
  have k2 : 1 * (T * peakF f t x ch) ≤ 2 * ch * (T * peakF f t x ch) := Int.mul_le_mul_of_nonneg_right (by omega) (by omega)
  omega
theorem time_long {l : List Leg} {cs : List Int} {ch : Int} (hr : Right l cs) (hc : 1 ≤ ch ∧ ch ≤ 10000000) {k : Nat} {x : Leg} (hx : l[k]? = some x) :
    (1 ≤ peakL l cs ch k ∧ peakL l cs ch k ≤ x.limit) ∧ x.long * 1000000 ≤ timeL l cs ch k * peakL l cs ch k ∧ timeL l cs ch k * peakL l cs ch k ≤ 9000000000000000000 := by
  have hk : k < l.length := (List.getElem?_eq_some_iff.1 hx).1
  have hxd : legD l k = x := by unfold legD; rw [List.getD, hx]; rfl
  have hxg := hr.legs x (List.mem_of_getElem? hx)
  have b1 := spdL_b hr ch k (by omega)
  have b2 := spdL_b hr ch (k + 1) (by omega)
  unfold peakL timeL
  rw [hxd]
  exact ⟨peakF_b hxg hc, peak_time b1 b2 hxg hc⟩
theorem brake_ge {s ch : Int} (hc : 1 ≤ ch) : s * s ≤ brakeF s ch * (2 * ch) ∧ (brakeF s ch - 1) * (2 * ch) < s * s := by
  have h1 := Int.mul_ediv_add_emod (s * s + 2 * ch - 1) (2 * ch)
  have h2 := Int.emod_nonneg (s * s + 2 * ch - 1) (show 2 * ch ≠ 0 by omega)
  have h3 := Int.emod_lt_of_pos (s * s + 2 * ch - 1) (show 0 < 2 * ch by omega)
  rw [Int.mul_comm] at h1
  unfold brakeF
  rw [Int.sub_mul]
  omega
theorem brake_b {s ch : Int} (hs : 1 ≤ s ∧ s ≤ 500) (hc : 1 ≤ ch ∧ ch ≤ 10000000) : 1 ≤ brakeF s ch ∧ brakeF s ch ≤ 200000 := by
  obtain ⟨h1, h2⟩ := brake_ge (s := s) hc.1
  have h3 : 1 * 1 ≤ s * s := sq_le (a := 1) (by omega) hs.1
  have h4 : s * s ≤ 500 * 500 := sq_le (by omega) hs.2
  constructor
  · by_cases h : 1 ≤ brakeF s ch
    · exact h
    · have := Int.mul_nonneg (a := -brakeF s ch) (b := 2 * ch) (by omega) (by omega)
      rw [Int.neg_mul] at this
      omega
  · by_cases h : brakeF s ch ≤ 200000
    · exact h
    · have := Int.mul_le_mul_of_nonneg_right (a := 200000) (b := brakeF s ch - 1) (c := 2 * ch) (by omega) (by omega)
      omega
theorem good_max {n : Int} (h : 1 ≤ n ∧ n ≤ 200000) : (⟨n, 100000⟩ : Leg).good := ⟨h.1, h.2, show (1 : Int) ≤ 100000 by decide, show (100000 : Int) ≤ 100000 by decide⟩
theorem reachV_ok {n ch : Int} (h : 1 ≤ n ∧ n ≤ 200000) (hc : 1 ≤ ch ∧ ch ≤ 10000000) : reachV 0 ⟨n, 100000⟩ ch = 0 := by
  have h1 : oneF ⟨n, 100000⟩ ch = 0 := by
    unfold oneF
    rw [legBad_f (good_max h)]
    show changeF ch = 0
    unfold changeF
    rw [if_pos (by omega)]
  unfold reachV
  rw [if_neg (by omega), if_pos (show (0 : Int) ≤ 0 ∧ (0 : Int) ≤ 100000 by decide)]
theorem reach_all {s n ch : Int} (hs : 1 ≤ s ∧ s ≤ 500) (hc : 1 ≤ ch) (hn : 0 ≤ n) (h : s * s ≤ n * (2 * ch)) : s ≤ reachF 0 ⟨n, 100000⟩ ch := by
  have e : n * (2 * ch) = 2 * ch * n := Int.mul_comm _ _
  have h1 : 0 ≤ 2 * ch * n := Int.mul_nonneg (by omega) hn
  have := le_rootI (n := 0 * 0 + 2 * ch * n) (r := s) (by omega) (by omega)
  unfold reachF rt
  show s ≤ min 100000 (rootI (0 * 0 + 2 * ch * n))
  omega
theorem reach_less {s n ch : Int} (hs : 1 ≤ s ∧ s ≤ 500) (hc : 1 ≤ ch) (hn : 0 ≤ n) (h : n * (2 * ch) < s * s) : reachF 0 ⟨n, 100000⟩ ch < s := by
  have e : n * (2 * ch) = 2 * ch * n := Int.mul_comm _ _
  have h1 : 0 ≤ 2 * ch * n := Int.mul_nonneg (by omega) hn
  have h2 := rootI_le (n := 0 * 0 + 2 * ch * n) (by omega)
  have := sq_lt (a := rootI (0 * 0 + 2 * ch * n)) (b := s) (by omega) (by omega)
  unfold reachF rt
  show min 100000 (rootI (0 * 0 + 2 * ch * n)) < s
  omega
theorem firstK_pp (p : Int) : firstK [p, p] = p := by
  by_cases h : p = 0 <;> simp [firstK, h]
theorem firstK_fault (l : List Leg) (cs : List Int) (ch : Int) : firstK [cornersF l cs, changeF ch] = faultL l cs ch := by
  simp only [firstK, faultL, changeF]
  split <;> first | rfl | (split <;> first | rfl | (simp_all; done))
theorem upto_get {f : Nat → Int} {k n : Nat} (h : k < n) : (upto f n)[k]? = some (f k) := by
  simp [upto, h]
end Go.Proofs.YtdmeohgojdfmoaaGreatDoor

/- Plain law: the other direction. -/
namespace Go.Proofs.YtdmeohgojdfmoaaGreatDoor
open Go Go.RowKit
theorem faultL_zero {l : List Leg} {cs : List Int} {ch : Int} (h : Right l cs) (hc : 1 ≤ ch ∧ ch ≤ 10000000) : faultL l cs ch = 0 := by
  obtain ⟨h1, h2, h3, h4, h5⟩ := h
  have e1 : legsF l = 0 := by
    unfold legsF
    rw [if_neg (by omega), if_neg (by omega), if_neg]
    simp only [List.any_eq_true, not_exists, not_and, Bool.not_eq_true]
    exact fun x hx => legBad_iff.2 (h3 x hx)
  have e2 : cornersF l cs = 0 := by
    unfold cornersF
    rw [if_neg (by omega), if_neg (by omega), if_neg]
    simp only [List.any_eq_true, not_exists, not_and, Bool.not_eq_true]
    exact fun z hz => cornerBad_f (h5 z hz).1 (h5 z hz).2
  unfold faultL changeF
  rw [if_neg (by omega), if_pos hc]
theorem Right.rev {l : List Leg} {cs : List Int} (h : Right l cs) : Right l.reverse cs.reverse :=
  ⟨by simpa using h.ne, by simpa using h.le, fun x hx => h.legs x (List.mem_reverse.1 hx), by simpa using h.len, fun z hz => h.cor z (List.mem_reverse.1 hz)⟩
theorem getD_rev {α : Type} {l : List α} {i : Nat} {z : α} (h : i < l.length) : l.reverse.getD i z = l.getD (l.length - 1 - i) z := by
  rw [List.getD_eq_getElem?_getD, List.getD_eq_getElem?_getD, List.getElem?_reverse h]
theorem capL_rev {l : List Leg} {cs : List Int} (h : Right l cs) {i : Nat} (hi : i ≤ l.length) : capL l.reverse cs.reverse i = capL l cs (l.length - i) := by
  have hn := h.len
  unfold capL
  rw [List.length_reverse]
  by_cases h0 : i = 0 ∨ l.length ≤ i
  · rw [if_pos h0, if_pos (by omega)]
  · rw [if_neg h0, if_neg (by omega), getD_rev (by omega), getD_rev (by omega), getD_rev (by omega),
      show cs.length - 1 - (i - 1) = l.length - i - 1 from by omega, show l.length - 1 - (i - 1) = l.length - i from by omega, show l.length - 1 - i = l.length - i - 1 from by omega]
    omega
theorem disL_rev {l : List Leg} {ch : Int} {i : Nat} (hi : i < l.length) : disL l.reverse ch i = disL l ch (l.length - 1 - i) := by
  unfold disL
  rw [getD_rev hi]
theorem speedsS_rev {l : List Leg} {cs : List Int} {ch : Int} (h : Right l cs) (hc : 1 ≤ ch) : speedsS l.reverse cs.reverse ch = (speedsS l cs ch).reverse := by
  have hb := speedsS_best h hc
  have e : ∀ i, i ≤ l.length → (speedsS l cs ch).reverse.getD i 0 = spd l.length (capL l cs) (disL l ch) (l.length - i) := fun i hi => by
    rw [getD_rev (by rw [speedsS_len]; omega), speedsS_len, show l.length + 1 - 1 - i = l.length - i from by omega]
    exact getD_of (speedsS_get (by omega))
  refine (speedsS_uniq h.rev hc (by simp [speedsS_len]) ?_).symm
  rw [List.length_reverse]
  refine ⟨⟨fun i hi => ?_, fun i hi => ?_⟩, fun w hw i hi => ?_⟩
  · show 0 ≤ (speedsS l cs ch).reverse.getD i 0 ∧ (speedsS l cs ch).reverse.getD i 0 ≤ _
    rw [e i hi, capL_rev h hi]
    exact hb.1.1 _ (by omega)
  · show (speedsS l cs ch).reverse.getD (i + 1) 0 ≤ rt ((speedsS l cs ch).reverse.getD i 0) _ ∧ (speedsS l cs ch).reverse.getD i 0 ≤ rt ((speedsS l cs ch).reverse.getD (i + 1) 0) _
    rw [e i (by omega), e (i + 1) (by omega), disL_rev hi]
    have := hb.1.2 (l.length - 1 - i) (by omega)
    rw [show l.length - 1 - i + 1 = l.length - i from by omega] at this
    rw [show l.length - (i + 1) = l.length - 1 - i from by omega]
    exact ⟨this.2, this.1⟩
  · show w i ≤ (speedsS l cs ch).reverse.getD i 0
    rw [e i hi]
    have := hb.2 (fun j => w (l.length - j)) ⟨fun j hj => ?_, fun j hj => ?_⟩ (l.length - i) (by omega)
    · rw [show l.length - (l.length - i) = i from by omega] at this
      exact this
    · have := hw.1 (l.length - j) (by omega)
      rw [capL_rev h (by omega), show l.length - (l.length - j) = j from by omega] at this
      exact this
    · have := hw.2 (l.length - 1 - j) (by omega)
      rw [disL_rev (by omega), show l.length - 1 - (l.length - 1 - j) = j from by omega, show l.length - 1 - j + 1 = l.length - j from by omega] at this
      show w (l.length - (j + 1)) ≤ rt (w (l.length - j)) _ ∧ w (l.length - j) ≤ rt (w (l.length - (j + 1))) _
      rw [show l.length - (j + 1) = l.length - 1 - j from by omega]
      exact ⟨this.2, this.1⟩
theorem spdL_rev {l : List Leg} {cs : List Int} {ch : Int} (h : Right l cs) (hc : 1 ≤ ch) {i : Nat} (hi : i ≤ l.length) : spdL l.reverse cs.reverse ch i = spdL l cs ch (l.length - i) := by
  have h1 := congrArg (fun q => q[i]?) (speedsS_rev h hc)
  have h2 : (speedsS l.reverse cs.reverse ch)[i]? = some (spdL l.reverse cs.reverse ch i) := speedsS_get (by rw [List.length_reverse]; exact hi)
  have h3 : (speedsS l cs ch).reverse[i]? = some (spdL l cs ch (l.length - i)) := by
    rw [List.getElem?_reverse (by rw [speedsS_len]; omega), speedsS_len, show l.length + 1 - 1 - i = l.length - i from by omega]
    exact speedsS_get (by omega)
  rw [h2, h3] at h1
  exact Option.some.inj h1
theorem peakF_comm (f t : Int) (x : Leg) (ch : Int) : peakF f t x ch = peakF t f x ch := by unfold peakF; rw [Int.add_comm (f * f)]
theorem numF_comm (f t : Int) (x : Leg) (ch : Int) : numF f t x ch = numF t f x ch := by unfold numF; rw [peakF_comm f t, Int.add_comm ((peakF t f x ch - f) * _)]
theorem denF_comm (f t : Int) (x : Leg) (ch : Int) : denF f t x ch = denF t f x ch := by unfold denF; rw [peakF_comm]
theorem upto_rev {f g : Nat → Int} {n : Nat} (h : ∀ i, i < n → f i = g (n - 1 - i)) : upto f n = (upto g n).reverse := by
  refine List.ext_getElem? fun i => ?_
  by_cases hi : i < n
  · rw [List.getElem?_reverse (by rw [upto_len]; exact hi), upto_len]
    unfold upto
    rw [List.getElem?_map, List.getElem?_map, List.getElem?_range hi, List.getElem?_range (by omega)]
    simp only [Option.map_some]
    rw [h i hi]
  · rw [List.getElem?_eq_none (by rw [upto_len]; omega), List.getElem?_eq_none (by rw [List.length_reverse, upto_len]; omega)]
theorem peaksS_rev {l : List Leg} {cs : List Int} {ch : Int} (h : Right l cs) (hc : 1 ≤ ch) : peaksS l.reverse cs.reverse ch = (peaksS l cs ch).reverse := by
  unfold peaksS
  rw [List.length_reverse]
  refine upto_rev fun i hi => ?_
  unfold peakL
  rw [spdL_rev h hc (by omega), spdL_rev h hc (by omega), show legD l.reverse i = legD l (l.length - 1 - i) from getD_rev hi, peakF_comm,
    show l.length - (i + 1) = l.length - 1 - i from by omega, show l.length - 1 - i + 1 = l.length - i from by omega]
theorem timesS_rev {l : List Leg} {cs : List Int} {ch : Int} (h : Right l cs) (hc : 1 ≤ ch) : timesS l.reverse cs.reverse ch = (timesS l cs ch).reverse := by
  unfold timesS
  rw [List.length_reverse]
  refine upto_rev fun i hi => ?_
  unfold timeL
  rw [spdL_rev h hc (by omega), spdL_rev h hc (by omega), show legD l.reverse i = legD l (l.length - 1 - i) from getD_rev hi, numF_comm, denF_comm,
    show l.length - (i + 1) = l.length - 1 - i from by omega, show l.length - 1 - i + 1 = l.length - i from by omega]
theorem sumW_acc : ∀ (l : List Int) (a : Int), l.foldl (fun a x => wrap64 (a + x)) (wrap64 a) = wrap64 (a + l.sum)
  | [], a => by simp
  | x :: l, a => by
    rw [List.foldl_cons, List.sum_cons, ← Int.add_assoc, ← sumW_acc l (a + x)]
    congr 1
    unfold wrap64; omega
theorem sum_rev : ∀ (l : List Int), l.reverse.sum = l.sum
  | [] => rfl
  | x :: l => by rw [List.reverse_cons, List.sum_append, sum_rev l, List.sum_cons]; simp; omega
theorem sumW_rev (l : List Int) : sumW l.reverse = sumW l := by
  have h0 : wrap64 0 = 0 := by unfold wrap64; omega
  have h1 := sumW_acc l 0
  have h2 := sumW_acc l.reverse 0
  rw [h0] at h1 h2
  unfold sumW
  rw [h1, h2, sum_rev]
end Go.Proofs.YtdmeohgojdfmoaaGreatDoor

/- The law BothWaysAreSame, walked. -/
namespace Go.Proofs.YtdmeohgojdfmoaaGreatDoor
open Go Go.RowKit
set_option maxRecDepth 100000
theorem firstK_cf (l : List Leg) (cs : List Int) (ch : Int) : firstK [cornersF l cs, faultL l cs ch] = faultL l cs ch := by
  unfold faultL
  by_cases h : cornersF l cs = 0
  · by_cases h2 : changeF ch = 0 <;> simp [firstK, h, h2]
  · simp [firstK, h]
theorem faultL_corn {l : List Leg} {cs : List Int} {ch : Int} (h : faultL l cs ch = 0) : cornersF l cs = 0 := by
  unfold faultL at h
  split at h <;> omega
theorem law_ways (v : Value) (zs : List Int) (hs : StrOk zs) : ACalls Tryz.prog 4 [.c (.r v (zs.map fun z => [I z]))] [] fun u H => u = .c (B true) := by
  refine acalls_of (N := 132) Tryz.func4 rfl rfl (by simp) fun E hE => ?_
  refine WA ?_
  refine WA ?_
  refine WR ?_
  refine al_ef rfl (ef_callm false (fun _ => leglist_a 8 v zs _ hs (by omega) (by omega) (by omega) (by omega)) rfl .fn rfl (by decide) (by kernel_rfl) rfl rfl (fun _g => .cons (.p rfl) (.cons (.c rfl) .nil)) (fun _g => .cons (.c rfl) (.cons (.c rfl) .nil)) (by simp)) ?_
  rintro F1 H1 ⟨_, _, _, _, ⟨vl, l, al, rfl, hq, hl1, hl2, hl3⟩, hF, hH⟩
  injection hq with hq1 hq2; subst hq1; subst hq2
  (try simp only [nsl, Nat.reduceAdd, Nat.reduceLT, Nat.reduceSub] at hF); (try simp only [nsl, Nat.reduceAdd, Nat.reduceLT, Nat.reduceSub] at hH); subst hF; subst hH
  have e1 : (l.map Leg.row).length = l.length := by simp
  refine WE ?_
  refine WR ?_
  refine al_ef rfl (ef_callm false (fun _ => cornerlist_a (l.map Leg.row).length v zs _ hs (by omega) (by omega) (by omega) (by omega)) rfl .fn rfl (by decide) (by kernel_rfl) rfl rfl (fun _g => .cons (.p rfl) (.cons (.c rfl) .nil)) (fun _g => .cons (.c rfl) (.cons (.c rfl) .nil)) (by simp)) ?_
  rintro F1 H1 ⟨_, _, _, _, ⟨vc, cs, ac, rfl, hq, hc1, hc2, hc3⟩, hF, hH⟩
  injection hq with hq1 hq2; subst hq1; subst hq2
  (try simp only [nsl, Nat.reduceAdd, Nat.reduceLT, Nat.reduceSub] at hF); (try simp only [nsl, Nat.reduceAdd, Nat.reduceLT, Nat.reduceSub] at hH); subst hF; subst hH
  refine WO ?_
  refine al_ef rfl (ef_callm false (fun _ => change_a v zs _ hs (by omega) (by omega)) rfl .fn rfl (by decide) (by kernel_rfl) rfl rfl (fun _g => .cons (.p rfl) .nil) (fun _g => .cons (.c rfl) (.cons (.c rfl) .nil)) (by simp)) ?_
  rintro F1 H1 ⟨_, _, _, _, ⟨ch, rfl, hq, hch⟩, hF, hH⟩
  injection hq with hq1 hq2; subst hq1; subst hq2
  (try simp only [nsl, Nat.reduceAdd, Nat.reduceLT, Nat.reduceSub] at hF); (try simp only [nsl, Nat.reduceAdd, Nat.reduceLT, Nat.reduceSub] at hH); subst hF; subst hH
  refine WE ?_
  obtain ⟨Lb, hLb⟩ : ∃ W, W = (if cornersF l cs = 0 then l.reverse else []) := ⟨_, rfl⟩
  obtain ⟨Cb, hCb⟩ : ∃ W, W = (if cornersF l cs = 0 then cs.reverse else []) := ⟨_, rfl⟩
  obtain ⟨c1, hc1⟩ : ∃ p, p = cornersF l cs := ⟨_, rfl⟩
  obtain ⟨Pa, hPa⟩ : ∃ W, W = (if faultL l cs ch = 0 then speedsS l cs ch else []) := ⟨_, rfl⟩
  obtain ⟨p1, hp1⟩ : ∃ p, p = faultL l cs ch := ⟨_, rfl⟩
  have hq : firstK [c1, p1] = p1 := by rw [hc1, hp1]; exact firstK_cf l cs ch
  refine WR ?_
  refine al_ef rfl (ef_call0 false (fun _ => back_a l cs vl vc (by omega) (by omega)) rfl .fn rfl (by decide) (by kernel_rfl) rfl (fun _ => C0 rfl) (by simp)) ?_
  rintro _ _ ⟨_, _, _, ⟨vb, wb, rfl, rfl⟩, hF, hH⟩
  rw [← hLb, ← hCb, ← hc1] at hF
  (try simp only [nsl, Nat.reduceAdd, Nat.reduceLT, Nat.reduceSub] at hF); (try simp only [nsl, Nat.reduceAdd, Nat.reduceLT, Nat.reduceSub] at hH); subst hF; subst hH
  refine WE ?_
  refine WR ?_
  refine al_ef rfl (ef_call0 false (fun _ => speedsx_a l cs ch vl vc (by omega) (by omega)) rfl .fn rfl (by decide) (by kernel_rfl) rfl (fun _ => C0 rfl) (by simp)) ?_
  rintro _ _ ⟨_, _, _, ⟨va, rfl, rfl⟩, hF, hH⟩
  rw [← hPa, ← hp1] at hF
  (try simp only [nsl, Nat.reduceAdd, Nat.reduceLT, Nat.reduceSub] at hF); (try simp only [nsl, Nat.reduceAdd, Nat.reduceLT, Nat.reduceSub] at hH); subst hF; subst hH
  refine WE ?_
  refine WR ?_
  refine al_ef rfl (ef_call0 true (fun _ => errsp_a [c1, p1] _ (by simp)) rfl .fn rfl (by decide) (by kernel_rfl) rfl (fun _g => .cons (.frz rfl rfl rfl rfl rfl) .nil) (fun _ _ _ _ ⟨hu, hH⟩ => by rw [hu, hH]; exact ⟨.c (.inl trivial), by simp⟩)) ?_
  rintro _ _ ⟨_, _, _, ⟨rfl, rfl⟩, hF, hH⟩
  rw [hq] at hF
  (try simp only [nsl, Nat.reduceAdd, Nat.reduceLT, Nat.reduceSub] at hF); (try simp only [nsl, Nat.reduceAdd, Nat.reduceLT, Nat.reduceSub] at hH); subst hF; subst hH
  refine WE ?_
  refine aw_if rfl (fun hne => ?_) (fun h0 => ?_)
  · refine WR ?_
    refine al_ef rfl (ef_call0 false (fun _ => corners2_a l cs vl vc (by omega) (by omega)) rfl .fn rfl (by decide) (by kernel_rfl) rfl (fun _ => C0 rfl) (by simp)) ?_
    rintro _ _ ⟨_, _, _, ⟨rfl, rfl⟩, hF, hH⟩
    (try simp only [nsl, Nat.reduceAdd, Nat.reduceLT, Nat.reduceSub] at hF); (try simp only [nsl, Nat.reduceAdd, Nat.reduceLT, Nat.reduceSub] at hH); subst hF; subst hH
    refine WO ?_
    refine al_ef rfl (ef_call0 false (fun _ => change2_a _) rfl .fn rfl (by decide) (by kernel_rfl) rfl (fun _ => C0 rfl) (by simp)) ?_
    rintro _ _ ⟨_, _, _, ⟨rfl, rfl⟩, hF, hH⟩
    (try simp only [nsl, Nat.reduceAdd, Nat.reduceLT, Nat.reduceSub] at hF); (try simp only [nsl, Nat.reduceAdd, Nat.reduceLT, Nat.reduceSub] at hH); subst hF; subst hH
    refine WO ?_
    refine al_ef rfl (ef_call0 true (fun _ => errsp_a [cornersF l cs, changeF ch] _ (by simp)) rfl .fn rfl (by decide) (by kernel_rfl) rfl (fun _g => .cons (.frz rfl rfl rfl rfl rfl) .nil) (fun _ _ _ _ ⟨hu, hH⟩ => by rw [hu, hH]; exact ⟨.c (.inl trivial), by simp⟩)) ?_
    rintro _ _ ⟨_, _, _, ⟨rfl, rfl⟩, hF, hH⟩
    rw [firstK_fault l cs ch, ← hp1] at hF
    (try simp only [nsl, Nat.reduceAdd, Nat.reduceLT, Nat.reduceSub] at hF); (try simp only [nsl, Nat.reduceAdd, Nat.reduceLT, Nat.reduceSub] at hH); subst hF; subst hH
    refine WO ?_
    refine al_ef rfl (ef_call0 true (fun _ => errsp_a [c1, p1] _ (by simp)) rfl .fn rfl (by decide) (by kernel_rfl) rfl (fun _g => .cons (.frz rfl rfl rfl rfl rfl) .nil) (fun _ _ _ _ ⟨hu, hH⟩ => by rw [hu, hH]; exact ⟨.c (.inl trivial), by simp⟩)) ?_
    rintro _ _ ⟨_, _, _, ⟨rfl, rfl⟩, hF, hH⟩
    rw [hq] at hF
    (try simp only [nsl, Nat.reduceAdd, Nat.reduceLT, Nat.reduceSub] at hF); (try simp only [nsl, Nat.reduceAdd, Nat.reduceLT, Nat.reduceSub] at hH); subst hF; subst hH
    refine WO ?_
    first | refine ZS ?_ | (refine G1 rfl ?_; refine al_ef rfl (ef_call0 false (fun _ => ready_a) rfl .fn rfl (by decide) (by kernel_rfl) rfl (fun _ => C0 rfl) (by simp)) ?_; rintro _ _ ⟨_, _, _, ⟨rfl, rfl⟩, hF, hH⟩; (try simp only [nsl, Nat.reduceAdd, Nat.reduceLT, Nat.reduceSub] at hF); (try simp only [nsl, Nat.reduceAdd, Nat.reduceLT, Nat.reduceSub] at hH); subst hF; subst hH) | skip
    refine WE ?_
    exact aret_1 [] _ rfl rfl rfl (by decide) (ZNK rfl) (fun _ => .nil) rfl
  have hf0 : faultL l cs ch = 0 := by omega
  obtain ⟨hr, hch'⟩ := faultL_ok hf0
  have hcf := faultL_corn hf0
  obtain rfl : Lb = l.reverse := by rw [hLb, if_pos hcf]
  obtain rfl : Cb = cs.reverse := by rw [hCb, if_pos hcf]
  rw [if_pos hf0] at hPa
  have hfr := faultL_zero (ch := ch) hr.rev hch'
  obtain ⟨Pk, hPk⟩ : ∃ W, W = peaksS l cs ch := ⟨_, rfl⟩
  obtain ⟨Tt, hTt⟩ : ∃ W, W = sumW (timesS l cs ch) := ⟨_, rfl⟩
  have hsr : speedsS l.reverse cs.reverse ch = Pa.reverse := by rw [hPa]; exact speedsS_rev hr hch'.1
  have hpr : peaksS l.reverse cs.reverse ch = Pk.reverse := by rw [hPk]; exact peaksS_rev hr hch'.1
  have htr : sumW (timesS l.reverse cs.reverse ch) = Tt := by rw [hTt, timesS_rev hr hch'.1, sumW_rev]
  have hPl : Pa.length = l.length + 1 := by rw [hPa, speedsS_len]
  have hKl : Pk.length = l.length := by rw [hPk, peaksS, upto_len]
  have hn2 := hr.le
  refine ZZ ?_
  refine aw_wk (wk_of (K := fun F H => F = [(4, .c (legs_r vl l)), (5, .c (ints_r vc cs)), (6, .c (I ch)), (7, .c (legs_r vb l.reverse)), (8, .c (ints_r wb cs.reverse)), (10, .c (ints_r va Pa))] ∧ H = []) [] (fun _ => [(4, .c (legs_r vl l)), (5, .c (ints_r vc cs)), (6, .c (I ch)), (7, .c (legs_r vb l.reverse)), (8, .c (ints_r wb cs.reverse)), (10, .c (ints_r va Pa))]) (fun _ => []) (by decide) (ZNL hE) ZCF ZCH (fun _ => ⟨rfl, rfl⟩)) ?_
  rintro F H ⟨rfl, rfl⟩
  refine WR ?_
  refine al_ef rfl (ef_call0 false (fun _ => speedsx_o l.reverse cs.reverse ch vb wb (by simp; omega) (by simp; omega) hfr) rfl .fn rfl (by decide) (by kernel_rfl) rfl (fun _ => C0 rfl) (by simp)) ?_
  rintro _ _ ⟨_, _, _, ⟨k1, hk1, rfl, rfl⟩, hF, hH⟩
  rw [List.length_reverse] at hF hk1
  rw [hsr] at hH
  (try simp only [nsl, Nat.reduceAdd, Nat.reduceLT, Nat.reduceSub] at hF); (try simp only [nsl, Nat.reduceAdd, Nat.reduceLT, Nat.reduceSub] at hH); subst hF; subst hH
  refine WE ?_
  refine WR ?_
  refine al_ef rfl (ef_call0 false (fun _ => peaks_a l cs ch vl vc (by omega) (by omega)) rfl .fn rfl (by decide) (by kernel_rfl) rfl (fun _ => C0 rfl) (by simp)) ?_
  rintro _ _ ⟨_, _, _, ⟨vp, rfl, rfl⟩, hF, hH⟩
  rw [hf0, if_pos rfl, ← hPk] at hF
  (try simp only [nsl, Nat.reduceAdd, Nat.reduceLT, Nat.reduceSub] at hF); (try simp only [nsl, Nat.reduceAdd, Nat.reduceLT, Nat.reduceSub] at hH); subst hF; subst hH
  refine WE ?_
  refine WR ?_
  refine al_ef rfl (ef_call0 false (fun _ => peaks_o l.reverse cs.reverse ch vb wb (by simp; omega) (by simp; omega) hfr) rfl .fn rfl (by decide) (by kernel_rfl) rfl (fun _ => C0 rfl) (by simp)) ?_
  rintro _ _ ⟨_, _, _, ⟨k2, hk2, rfl, rfl⟩, hF, hH⟩
  rw [List.length_reverse] at hF hk2
  rw [hpr] at hH
  (try simp only [nsl, Nat.reduceAdd, Nat.reduceLT, Nat.reduceSub] at hF); (try simp only [nsl, Nat.reduceAdd, Nat.reduceLT, Nat.reduceSub] at hH); subst hF; subst hH
  refine WE ?_
  refine WR ?_
  refine al_ef rfl (ef_call0 false (fun _ => total_a l cs ch vl vc (by omega) (by omega)) rfl .fn rfl (by decide) (by kernel_rfl) rfl (fun _ => C0 rfl) (by simp)) ?_
  rintro _ _ ⟨_, _, _, ⟨rfl, rfl⟩, hF, hH⟩
  rw [hf0, if_pos rfl, ← hTt] at hF
  (try simp only [nsl, Nat.reduceAdd, Nat.reduceLT, Nat.reduceSub] at hF); (try simp only [nsl, Nat.reduceAdd, Nat.reduceLT, Nat.reduceSub] at hH); subst hF; subst hH
  refine WE ?_
  refine WR ?_
  refine al_ef rfl (ef_call0 false (fun _ => total_a l.reverse cs.reverse ch vb wb (by simp; omega) (by simp; omega)) rfl .fn rfl (by decide) (by kernel_rfl) rfl (fun _ => C0 rfl) (by simp)) ?_
  rintro _ _ ⟨_, _, _, ⟨rfl, rfl⟩, hF, hH⟩
  rw [hfr, if_pos rfl, htr] at hF
  (try simp only [nsl, Nat.reduceAdd, Nat.reduceLT, Nat.reduceSub] at hF); (try simp only [nsl, Nat.reduceAdd, Nat.reduceLT, Nat.reduceSub] at hH); subst hF; subst hH
  refine WE ?_
  refine WR ?_
  refine al_ef rfl (ef_callp [0] (fun _ => [.arr 3 1 k1 (Pa.reverse.map fun z => [I z])]) false (fun _ => revI_a Pa.reverse k1 (by simp; omega) (by simp; omega)) rfl .fn rfl (by decide) (by kernel_rfl) rfl (fun _ => .cons (.o rfl (by simp; omega)) .nil) (by decide) (fun _ => .arr rfl rfl .nil) (by simp)) ?_
  rintro F1 H1 ⟨_, _, _, _, ⟨rfl, rfl⟩, hF, hH⟩
  rw [killF_nil] at hF
  rw [List.reverse_reverse] at hH
  (try simp only [List.set_cons_zero, List.set_cons_succ, updH, posOf, lentArr, killF, killO, killV, AV.has, AV.hasL, AV.emb, AV.embL, OB.emb, embB, List.filter_cons, List.filter_nil, List.getElem?_cons_zero, List.getElem?_cons_succ, List.getD_cons_zero, List.getD_cons_succ, List.drop_succ_cons, List.drop_zero, List.drop_nil, List.contains_cons, List.contains_nil, Nat.reduceBEq, Nat.reduceEqDiff, beq_self_eq_true, Bool.or_false, Bool.false_or, Bool.or_true, Bool.true_or, Bool.false_eq_true, Option.map_some, Option.map_none, List.map_cons, List.map_nil, List.cons_append, List.nil_append, List.append_nil, List.length_cons, List.length_nil, Nat.reduceAdd, Nat.reduceLT, Nat.reduceSub, if_true, if_false, Nat.zero_add, Nat.add_zero, Nat.sub_zero, Nat.lt_irrefl, Nat.not_lt_zero, Nat.zero_lt_one, Nat.lt_add_one] at hF); (try simp only [List.set_cons_zero, List.set_cons_succ, updH, posOf, lentArr, killF, killO, killV, AV.has, AV.hasL, AV.emb, AV.embL, OB.emb, embB, List.filter_cons, List.filter_nil, List.getElem?_cons_zero, List.getElem?_cons_succ, List.getD_cons_zero, List.getD_cons_succ, List.drop_succ_cons, List.drop_zero, List.drop_nil, List.contains_cons, List.contains_nil, Nat.reduceBEq, Nat.reduceEqDiff, beq_self_eq_true, Bool.or_false, Bool.false_or, Bool.or_true, Bool.true_or, Bool.false_eq_true, Option.map_some, Option.map_none, List.map_cons, List.map_nil, List.cons_append, List.nil_append, List.append_nil, List.length_cons, List.length_nil, Nat.reduceAdd, Nat.reduceLT, Nat.reduceSub, if_true, if_false, Nat.zero_add, Nat.add_zero, Nat.sub_zero, Nat.lt_irrefl, Nat.not_lt_zero, Nat.zero_lt_one, Nat.lt_add_one] at hH); subst hF; subst hH
  refine WE ?_
  refine WR ?_
  refine al_ef rfl (ef_callp [1] (fun _ => [.arr 3 1 k2 (Pk.reverse.map fun z => [I z])]) false (fun _ => revI_a Pk.reverse k2 (by simp; omega) (by simp; omega)) rfl .fn rfl (by decide) (by kernel_rfl) rfl (fun _ => .cons (.o rfl (by simp; omega)) .nil) (by decide) (fun _ => .arr rfl rfl .nil) (by simp)) ?_
  rintro F1 H1 ⟨_, _, _, _, ⟨rfl, rfl⟩, hF, hH⟩
  rw [killF_nil] at hF
  rw [List.reverse_reverse] at hH
  (try simp only [List.set_cons_zero, List.set_cons_succ, updH, posOf, lentArr, killF, killO, killV, AV.has, AV.hasL, AV.emb, AV.embL, OB.emb, embB, List.filter_cons, List.filter_nil, List.getElem?_cons_zero, List.getElem?_cons_succ, List.getD_cons_zero, List.getD_cons_succ, List.drop_succ_cons, List.drop_zero, List.drop_nil, List.contains_cons, List.contains_nil, Nat.reduceBEq, Nat.reduceEqDiff, beq_self_eq_true, Bool.or_false, Bool.false_or, Bool.or_true, Bool.true_or, Bool.false_eq_true, Option.map_some, Option.map_none, List.map_cons, List.map_nil, List.cons_append, List.nil_append, List.append_nil, List.length_cons, List.length_nil, Nat.reduceAdd, Nat.reduceLT, Nat.reduceSub, if_true, if_false, Nat.zero_add, Nat.add_zero, Nat.sub_zero, Nat.lt_irrefl, Nat.not_lt_zero, Nat.zero_lt_one, Nat.lt_add_one] at hF); (try simp only [List.set_cons_zero, List.set_cons_succ, updH, posOf, lentArr, killF, killO, killV, AV.has, AV.hasL, AV.emb, AV.embL, OB.emb, embB, List.filter_cons, List.filter_nil, List.getElem?_cons_zero, List.getElem?_cons_succ, List.getD_cons_zero, List.getD_cons_succ, List.drop_succ_cons, List.drop_zero, List.drop_nil, List.contains_cons, List.contains_nil, Nat.reduceBEq, Nat.reduceEqDiff, beq_self_eq_true, Bool.or_false, Bool.false_or, Bool.or_true, Bool.true_or, Bool.false_eq_true, Option.map_some, Option.map_none, List.map_cons, List.map_nil, List.cons_append, List.nil_append, List.append_nil, List.length_cons, List.length_nil, Nat.reduceAdd, Nat.reduceLT, Nat.reduceSub, if_true, if_false, Nat.zero_add, Nat.add_zero, Nat.sub_zero, Nat.lt_irrefl, Nat.not_lt_zero, Nat.zero_lt_one, Nat.lt_add_one] at hH); subst hF; subst hH
  refine WE ?_
  refine WR ?_
  refine al_ef rfl (ef_call0 true (fun _ => errsp_a [0, 0, 0, 0, 0] _ (by simp)) rfl .fn rfl (by decide) (by kernel_rfl) rfl (fun _g => .cons (.frz rfl rfl rfl rfl rfl) .nil) (fun _ _ _ _ ⟨hu, hH⟩ => by rw [hu, hH]; exact ⟨.c (.inl trivial), by simp⟩)) ?_
  rintro _ _ ⟨_, _, _, ⟨rfl, rfl⟩, hF, hH⟩
  rw [show firstK [0, 0, 0, 0, 0] = 0 from rfl] at hF
  (try simp only [nsl, Nat.reduceAdd, Nat.reduceLT, Nat.reduceSub] at hF); (try simp only [nsl, Nat.reduceAdd, Nat.reduceLT, Nat.reduceSub] at hH); subst hF; subst hH
  refine WO ?_
  first | refine ZS ?_ | (refine G1 rfl ?_; refine al_ef rfl (ef_call0 true (fun g => eqI_a Pa Pa va (g (.o 0 0 (l.length + 1) k1)) (by omega) (by omega)) rfl .fn rfl (by decide) (by kernel_rfl) rfl (fun _ => .cons (.c rfl) (.cons (.frz rfl rfl (by rw [List.drop_zero, List.take_of_length_le (by simp; omega)]) (by simp; omega) rfl) .nil)) (fun _ _ _ _ ⟨_, hu, hH, _⟩ => by rw [hu, hH]; exact ⟨.c (.inl trivial), by simp⟩)) ?_; rintro _ _ ⟨_, _, _, ⟨bm, rfl, rfl, hbm⟩, hF, hH⟩; obtain rfl : bm = true := hbm.2 rfl; (try simp only [nsl, Nat.reduceAdd, Nat.reduceLT, Nat.reduceSub] at hF); (try simp only [nsl, Nat.reduceAdd, Nat.reduceLT, Nat.reduceSub] at hH); subst hF; subst hH) | skip
  refine WO ?_
  first | refine ZS ?_ | (refine G1 rfl ?_; refine al_ef rfl (ef_call0 true (fun g => eqI_a Pk Pk vp (g (.o 1 0 l.length k2)) (by omega) (by omega)) rfl .fn rfl (by decide) (by kernel_rfl) rfl (fun _ => .cons (.c rfl) (.cons (.frz rfl rfl (by rw [List.drop_zero, List.take_of_length_le (by simp; omega)]) (by simp; omega) rfl) .nil)) (fun _ _ _ _ ⟨_, hu, hH, _⟩ => by rw [hu, hH]; exact ⟨.c (.inl trivial), by simp⟩)) ?_; rintro _ _ ⟨_, _, _, ⟨bm, rfl, rfl, hbm⟩, hF, hH⟩; obtain rfl : bm = true := hbm.2 rfl; (try simp only [nsl, Nat.reduceAdd, Nat.reduceLT, Nat.reduceSub] at hF); (try simp only [nsl, Nat.reduceAdd, Nat.reduceLT, Nat.reduceSub] at hH); subst hF; subst hH) | skip
  refine WO ?_
  first | refine ZS ?_ | (refine G1 rfl ?_; refine al_ef rfl (ef_call0 false (fun _ => ready_a) rfl .fn rfl (by decide) (by kernel_rfl) rfl (fun _ => C0 rfl) (by simp)) ?_; rintro _ _ ⟨_, _, _, ⟨rfl, rfl⟩, hF, hH⟩; (try simp only [nsl, Nat.reduceAdd, Nat.reduceLT, Nat.reduceSub] at hF); (try simp only [nsl, Nat.reduceAdd, Nat.reduceLT, Nat.reduceSub] at hH); subst hF; subst hH) | skip
  refine WE ?_
  exact aret_1 [] _ rfl rfl rfl (by decide) (ZNK rfl) (fun _ => .nil) rfl
end Go.Proofs.YtdmeohgojdfmoaaGreatDoor

/- The statement BothWaysAreSame, a tied card: for every input the law returns true, and the input reads as it did. Conditions: none. -/
namespace Go.Proofs.YtdmeohgojdfmoaaGreatDoor
open Go Go.ChangeShapes Go.WideShapes Go.ChangeAt Go.RowKit
set_option maxRecDepth 100000
theorem bothWaysAreSame_contract (H : Type) (enc : TypeId × Value → H) (W : World) (base : Nat) (args : Array Value) (ds gs : List (DataW H)) (before : List MemPlace)
    (hval : ∀ (j : Nat) t v, Tryz.f4.params[j]? = some t → args[j]? = some v → Value.okWide Tryz.prog W .any base t v)
    (hW : DataW.Whole enc Tryz.prog Tryz.f4.params.toList Rows.bothWaysAreSameSpec.vars false W args.toList ds gs before) :
    Calls Tryz.prog 4 args W fun e W' => ∃ v, e = .returned v ∧ Rows.bothWaysAreSameSpec.post enc Tryz.prog Tryz.f4 false true false false W args v W' := by
  have hW' := hW
  obtain ⟨p, q, hA0, hV, rfl, hfz, hnd⟩ := hW
  have hA : DataW.TrodAll enc Tryz.prog W 0 (fun _ => true) true Tryz.f4.params.toList args.toList ds p := hA0
  rw [Tryz.params4] at hA hval
  obtain ⟨v0, d0, rfl, rfl, h0⟩ := trodAll_one hA
  obtain ⟨rfl, rfl⟩ := trodVars_none hV
  obtain ⟨A, len, cap, rfl⟩ := okWide_slice Tryz.underlying22 (hval 0 22 v0 rfl rfl)
  obtain ⟨fuel, hf⟩ := h0
  obtain ⟨zs, hs, hg⟩ := arg_ints hf
  refine (law_ways (.slice A len cap) zs hs (fun b => b < W.heap.size) [] W (rh_none W) (fun x hx => by rw [List.mem_singleton.1 hx]; exact .c hg)).mono ?_
  rintro e W' ⟨u, H', ρ', S', rfl, rfl, -, -, hst, -⟩
  refine ⟨_, rfl, [d0], [], p ++ [], [], p, [], hW', trodAll_mk1 (shut_bool Tryz.underlying4 true), ?_, by exact rfl, kept_all hst, fun h => by cases h⟩
  refine trodAll_mk1 ⟨fuel, DataW.trod_stays Tryz.kids (fun {t e} => Tryz.full t e) (fun h => by cases h) (of_decide_eq_true (by kernel_rfl)) hf (fun q hq => same_all hst ?_) (fun q hq => ?_)⟩
  · exact hW'.lt q (by simpa using hq)
  · exact decide_eq_true (hW'.lt q (by simpa using hq))
theorem bothWaysAreSame_t0 : Tryz.checked.prog.inits.idxOf? 4 = none := by kernel_rfl
theorem bothWaysAreSame_t1 (os : Os) : Input.okWideB Tryz.checked.prog ((World.laidAll Tryz.prog os laidL).forCall (fun _ _ => 0) ⟨#[], #[.slice none 0 0], []⟩) 4 ⟨#[], #[.slice none 0 0], []⟩ = true := by kernel_rfl
theorem bothWaysAreSame_t2 (H : Type) (enc : TypeId × Value → H) (os : Os) : Rows.bothWaysAreSameSpec.preB enc Tryz.checked.prog Tryz.f4 Rows.bothWaysAreSameRow.domain false ((World.laidAll Tryz.prog os laidL).forCall (fun _ _ => 0) ⟨#[], #[.slice none 0 0], []⟩).memory #[.slice none 0 0] 8 = true := by kernel_rfl
theorem bothWaysAreSame_t3 (H : Type) (enc : TypeId × Value → H) (os : Os) : Rows.bothWaysAreSameSpec.sizedB enc Tryz.checked.prog Tryz.f4 false ((World.laidAll Tryz.prog os laidL).forCall (fun _ _ => 0) ⟨#[], #[.slice none 0 0], []⟩).memory #[.slice none 0 0] 8 = true := by kernel_rfl
set_option maxRecDepth 100000 in
theorem bothWaysAreSame_lifted (os : Os) (started : os.Started) (H : Type) (enc : TypeId × Value → H) :
    ReturnsInHanded {} Tryz.checked os 4 .any (fun w args => (Rows.bothWaysAreSameSpec.pre enc Tryz.prog Tryz.f4 Rows.bothWaysAreSameRow.domain false w args ∧ laidMetH Tryz.prog laidL w) ∧ sizedMet enc Tryz.prog Tryz.f4 (OpenSpec.ofChange Rows.bothWaysAreSameSpec) false w args)
      (Rows.bothWaysAreSameSpec.post enc Tryz.prog Tryz.f4 false true false false) := by
  refine returnsInHanded_of_change_and (C := Tryz.checked) (X := fun w _ => laidMetH Tryz.prog laidL w) (fun _ _ _ hh h => h.of_heap hh) Tryz.own started bothWaysAreSame_t0 Tryz.func4
    (ChangeSpec.witness_shaped (enc := enc) (C := Tryz.checked) (os := os) (X := fun w _ => laidMetH Tryz.prog laidL w) false (World.laidAll Tryz.prog os laidL) #[.slice none 0 0] 8 (World.laidAll_os _ _ _)
      (laid_shaped os) (bothWaysAreSame_t1 os) (bothWaysAreSame_t2 H enc os) (bothWaysAreSame_t3 H enc os) (laid_met os)) ?_
  intro W base args ds gs before hval hW _ _ _ _
  exact bothWaysAreSame_contract H enc W base args ds gs before hval hW
theorem bothWaysAreSame_k1 : (Rows.bothWaysAreSameRow.inPlace == Tryz.pinned.checked.prog.inPlace 4) = true := by kernel_rfl
theorem bothWaysAreSame_k2 : (Rows.bothWaysAreSameRow.unfollowed == Tryz.pinned.checked.prog.unfollowed 4) = true := by kernel_rfl
theorem bothWaysAreSame_k3 : (Rows.bothWaysAreSameRow.recurses == Tryz.pinned.checked.prog.recurses 4) = true := by kernel_rfl
theorem bothWaysAreSame_k4 : (Rows.bothWaysAreSameRow.named == Tryz.pinned.checked.prog.varsNamed 4) = true := by kernel_rfl
theorem bothWaysAreSame_k5 : (Rows.bothWaysAreSameRow.lifted == Tryz.pinned.checked.prog.liftsFinal) = true := by kernel_rfl
theorem bothWaysAreSame_k6 : (Tryz.pinned.checked.prog.make == some Rows.bothWaysAreSameRow.make) = true := by kernel_rfl
theorem bothWaysAreSame_facts : joinedFacts Tryz.pinned.checked.prog 4 Tryz.f4 Rows.bothWaysAreSameSpec Rows.bothWaysAreSameRow = true := by
  unfold joinedFacts
  rw [kc_laidOut, kc_mapsRowed, kc_heard, kc_enter, bothWaysAreSame_k1, bothWaysAreSame_k2, bothWaysAreSame_k3, bothWaysAreSame_k4, bothWaysAreSame_k5, bothWaysAreSame_k6]
  kernel_rfl
theorem bothWaysAreSame_named : Tryz.pinned.checked.prog.funcNamed Rows.bothWaysAreSameRow.func = some 4 := by kernel_rfl
theorem bothWaysAreSame_inst : Tryz.f4.isInstance Tryz.pinned.checked.prog Rows.bothWaysAreSameRow.origin Rows.bothWaysAreSameRow.targs := of_decide_eq_true (by kernel_rfl)
theorem bothWaysAreSame_wrap : Tryz.f4.isWrapper Tryz.pinned.checked.prog Rows.bothWaysAreSameRow.wrapper Rows.bothWaysAreSameRow.mainSum := by unfold Func.isWrapper; first | (rw [if_pos (by decide +kernel)]; kernel_rfl) | (rw [if_neg (by decide +kernel)]; exact ⟨rfl, rfl⟩)
theorem bothWaysAreSame_main : Tryz.pinned.checked.prog.mainIs = some (Rows.bothWaysAreSameCard.stood.harness.1, Rows.bothWaysAreSameCard.stood.harness.2.toList) := by kernel_rfl
theorem bothWaysAreSame_goes : false = Rows.bothWaysAreSameRow.goesBy Tryz.pinned.checked.prog := by kernel_rfl
theorem bothWaysAreSame_wf : Rows.bothWaysAreSameRow.wfByText (OpenSpec.ofChange Rows.bothWaysAreSameSpec) = true := by kernel_rfl
theorem bothWaysAreSame_row : Rows.BothWaysAreSameSaid :=
  OpenClaim.holds_of_wide 4 Tryz.f4 rfl rfl rfl rfl rfl rfl rfl ⟨rfl, rfl, rfl, rfl, rfl⟩ rfl rfl rfl rfl rfl bothWaysAreSame_named Tryz.func4 bothWaysAreSame_facts bothWaysAreSame_inst bothWaysAreSame_wrap
    (fun os started H enc _ => bothWaysAreSame_lifted os started H enc)
theorem bothWaysAreSame_holds : Rows.BothWaysAreSameCardSaid :=
  Claim7.holds_tied_plain_at .later [] [.data, .pinned] true Rows.bothWaysAreSameCard.stood.harness false bothWaysAreSame_row (fun _ h => by cases h) bothWaysAreSame_wf (fun _ h => by cases h) bothWaysAreSame_row_tie rfl ⟨rfl, rfl⟩ bothWaysAreSame_main rfl
    (fun f fn hf hfn => by
      obtain rfl : f = 4 := Option.some.inj (bothWaysAreSame_named.symm.trans hf) |>.symm
      obtain rfl : fn = Tryz.f4 := (Option.some.inj (Tryz.func4.symm.trans hfn)).symm
      exact ⟨kc_looks, fun j t ht => by
        rw [Tryz.params4] at ht
        have hm : t ∈ [22] := by simpa using Array.mem_of_getElem? ht
        have hall : ([22].all fun u => !Tryz.prog.wantsStandIn u) = true := by kernel_rfl
        exact (show Tryz.prog.wantsStandIn t = false by simpa using List.all_eq_true.1 hall t hm)⟩)
    bothWaysAreSame_goes
end Go.Proofs.YtdmeohgojdfmoaaGreatDoor
