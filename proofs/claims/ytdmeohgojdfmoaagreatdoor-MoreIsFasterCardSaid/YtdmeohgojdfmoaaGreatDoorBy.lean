/- The law MoreIsFaster, walked. -/
import Derived.Test.YtdmeohgojdfmoaaGreatDoorMi
import Derived.Test.YtdmeohgojdfmoaaGreatDoorGy
import Derived.Test.YtdmeohgojdfmoaaGreatDoorPvx
import Derived.Test.YtdmeohgojdfmoaaGreatDoorMj
import Derived.Test.YtdmeohgojdfmoaaGreatDoorNb
import Derived.Test.YtdmeohgojdfmoaaGreatDoorSs
import Derived.Test.YtdmeohgojdfmoaaGreatDoorPvo
import Derived.Test.YtdmeohgojdfmoaaGreatDoorMa
import Derived.Test.YtdmeohgojdfmoaaGreatDoorXy
set_option linter.unusedSimpArgs false
set_option linter.unusedVariables false
/- Plain law: no leg takes less time than at its peak all the way; what can be braked can be reached, and no more. -/
namespace Go.Proofs.YtdmeohgojdfmoaaGreatDoor
open Go Go.RowKit
theorem ceilF_ge {num den : Int} (h : 0 < den) : num ≤ ceilF num den * den ∧ ceilF num den * den ≤ num + den := by
  have h1 := Int.mul_ediv_add_emod num den
  have h2 := Int.emod_nonneg num (show den ≠ 0 by omega)
  have h3 := Int.emod_lt_of_pos num h
  rw [Int.mul_comm] at h1
  unfold ceilF
  split
  · rw [Int.add_mul]; omega
  · omega
theorem peak_time {f t : Int} {x : Leg} {ch : Int} (h0 : 0 ≤ f ∧ f ≤ 100000) (h1 : 0 ≤ t ∧ t ≤ 100000) (hx : x.good) (hc : 1 ≤ ch ∧ ch ≤ 10000000) :
    x.long * 1000000 ≤ ceilF (numF f t x ch) (denF f t x ch) * peakF f t x ch ∧ ceilF (numF f t x ch) (denF f t x ch) * peakF f t x ch ≤ 9000000000000000000 := by
  have hp := peakF_b (f := f) (t := t) hx hc
  have hd := dis_b hc hx
  have hx' := hx
  obtain ⟨hx1, hx2, hx3, hx4⟩ := hx'
  have hs := sq_b (a := peakF f t x ch - f) (by omega) (by omega)
  have ht := sq_b (a := peakF f t x ch - t) (by omega) (by omega)
  have hpb := prod_b (a := 2 * ch) (b := peakF f t x ch) (A := 20000000) (C := 100000) (by omega) (by omega) (by omega) (by omega)
  have hq : 0 < denF f t x ch := by unfold denF; exact Int.mul_pos (by omega) (by omega)
  obtain ⟨g1, g2⟩ := ceilF_ge (num := numF f t x ch) hq
  generalize hT : ceilF (numF f t x ch) (denF f t x ch) = T at *
  have e1 : T * denF f t x ch = 2 * ch * (T * peakF f t x ch) := by
    unfold denF
    rw [← Int.mul_assoc, Int.mul_comm T (2 * ch), Int.mul_assoc]
  have e2 : 2 * ch * (x.long * 1000000) = 1000000 * (2 * ch * x.long) := by
    rw [← Int.mul_assoc, Int.mul_comm _ (1000000 : Int)]
  have n1 : 1000000 * (2 * ch * x.long) ≤ numF f t x ch := by unfold numF; omega
  have n2 : numF f t x ch ≤ 1000000 * 4020000000000 := by unfold numF; omega
  have n3 : denF f t x ch ≤ 2000000000000 := by unfold denF; omega
  have k1 : x.long * 1000000 ≤ T * peakF f t x ch := by
    refine Int.le_of_mul_le_mul_left (a := 2 * ch) ?_ (by omega)
    rw [e2, ← e1]; omega
  refine ⟨k1, ?_⟩
  have k2 : 1 * (T * peakF f t x ch) ≤ 2 * ch * (T * peakF f t x ch) := Int.mul_le_mul_of_nonneg_right (by omega) (by omega)
  omega
theorem time_long {l : List Leg} {cs : List Int} {ch : Int} (hr : Right l cs) (hc : 1 ≤ ch ∧ ch ≤ 10000000) {k : Nat} {x : Leg} (hx : l[k]? = some x) :
    (1 ≤ peakL l cs ch k ∧ peakL l cs ch k ≤ x.limit) ∧ x.long * 1000000 ≤ timeL l cs ch k * peakL l cs ch k ∧ timeL l cs ch k * peakL l cs ch k ≤ 9000000000000000000 := by
  have hk : k < l.length := (List.getElem?_eq_some_iff.1 hx).1
  have hxd : legD l k = x := by unfold legD; rw [List.getD, hx]; rfl
  have hxg := hr.legs x (List.mem_of_getElem? hx)
  have b1 := spdL_b hr ch k (by omega)
  have b2 := spdL_b hr ch (k + 1) (by omega)
  unfold peakL timeL
  rw [hxd]
  exact ⟨peakF_b hxg hc, peak_time b1 b2 hxg hc⟩
theorem brake_ge {s ch : Int} (hc : 1 ≤ ch) : s * s ≤ brakeF s ch * (2 * ch) ∧ (brakeF s ch - 1) * (2 * ch) < s * s := by
  have h1 := Int.mul_ediv_add_emod (s * s + 2 * ch - 1) (2 * ch)
  have h2 := Int.emod_nonneg (s * s + 2 * ch - 1) (show 2 * ch ≠ 0 by omega)
  have h3 := Int.emod_lt_of_pos (s * s + 2 * ch - 1) (show 0 < 2 * ch by omega)
  rw [Int.mul_comm] at h1
  unfold brakeF
  rw [Int.sub_mul]
  omega
theorem brake_b {s ch : Int} (hs : 1 ≤ s ∧ s ≤ 500) (hc : 1 ≤ ch ∧ ch ≤ 10000000) : 1 ≤ brakeF s ch ∧ brakeF s ch ≤ 200000 := by
  obtain ⟨h1, h2⟩ := brake_ge (s := s) hc.1
  have h3 : 1 * 1 ≤ s * s := sq_le (a := 1) (by omega) hs.1
  have h4 : s * s ≤ 500 * 500 := sq_le (by omega) hs.2
  constructor
  · by_cases h : 1 ≤ brakeF s ch
    · exact h
    · have := Int.mul_nonneg (a := -brakeF s ch) (b := 2 * ch) (by omega) (by omega)
      rw [Int.neg_mul] at this
      omega
  · by_cases h : brakeF s ch ≤ 200000
    · exact h
    · have := Int.mul_le_mul_of_nonneg_right (a := 200000) (b := brakeF s ch - 1) (c := 2 * ch) (by omega) (by omega)
      omega
theorem good_max {n : Int} (h : 1 ≤ n ∧ n ≤ 200000) : (⟨n, 100000⟩ : Leg).good := ⟨h.1, h.2, show (1 : Int) ≤ 100000 by decide, show (100000 : Int) ≤ 100000 by decide⟩
theorem reachV_ok {n ch : Int} (h : 1 ≤ n ∧ n ≤ 200000) (hc : 1 ≤ ch ∧ ch ≤ 10000000) : reachV 0 ⟨n, 100000⟩ ch = 0 := by
  have h1 : oneF ⟨n, 100000⟩ ch = 0 := by
    unfold oneF
    rw [legBad_f (good_max h)]
    show changeF ch = 0
    unfold changeF
    rw [if_pos (by omega)]
  unfold reachV
  rw [if_neg (by omega), if_pos (show (0 : Int) ≤ 0 ∧ (0 : Int) ≤ 100000 by decide)]
theorem reach_all {s n ch : Int} (hs : 1 ≤ s ∧ s ≤ 500) (hc : 1 ≤ ch) (hn : 0 ≤ n) (h : s * s ≤ n * (2 * ch)) : s ≤ reachF 0 ⟨n, 100000⟩ ch := by
  have e : n * (2 * ch) = 2 * ch * n := Int.mul_comm _ _
  have h1 : 0 ≤ 2 * ch * n := Int.mul_nonneg (by omega) hn
  have := le_rootI (n := 0 * 0 + 2 * ch * n) (r := s) (by omega) (by omega)
  unfold reachF rt
  show s ≤ min 100000 (rootI (0 * 0 + 2 * ch * n))
  omega
theorem reach_less {s n ch : Int} (hs : 1 ≤ s ∧ s ≤ 500) (hc : 1 ≤ ch) (hn : 0 ≤ n) (h : n * (2 * ch) < s * s) : reachF 0 ⟨n, 100000⟩ ch < s := by
  have e : n * (2 * ch) = 2 * ch * n := Int.mul_comm _ _
  have h1 : 0 ≤ 2 * ch * n := Int.mul_nonneg (by omega) hn
  have h2 := rootI_le (n := 0 * 0 + 2 * ch * n) (by omega)
  have := sq_lt (a := rootI (0 * 0 + 2 * ch * n)) (b := s) (by omega) (by omega)
  unfold reachF rt
  show min 100000 (rootI (0 * 0 + 2 * ch * n)) < s
  omega
theorem firstK_pp (p : Int) : firstK [p, p] = p := by
  by_cases h : p = 0 <;> simp [firstK, h]
theorem firstK_fault (l : List Leg) (cs : List Int) (ch : Int) : firstK [cornersF l cs, changeF ch] = faultL l cs ch := by
  simp only [firstK, faultL, changeF]
  split <;> first | rfl | (split <;> first | rfl | (simp_all; done))
theorem upto_get {f : Nat → Int} {k n : Nat} (h : k < n) : (upto f n)[k]? = some (f k) := by
  simp [upto, h]
end Go.Proofs.YtdmeohgojdfmoaaGreatDoor

/- Legs that are divided, by value. -/
namespace Go.Proofs.YtdmeohgojdfmoaaGreatDoor
open Go Go.RowKit
set_option maxRecDepth 100000
/-- A result that is an array of the call's own, given back by content. -/
theorem acalls_frz {P : Program} {f : FuncId} {args : List AV} {e : TypeId} {sz n : Nat} {rows : List (List CV)} (h : ACalls P f args [] fun u H => ∃ c : Nat, n ≤ c ∧ u = .o 0 0 n c ∧ H = [.arr e sz c rows]) (hn : rows.length = n) : ACalls P f args [] fun u H => ∃ v, u = .c (.r v rows) ∧ H = [] := fun S ρ w h1 h2 =>
  (h S ρ w h1 h2).mono fun e' w' ⟨u, H', ρ', S', h3, ⟨c, hc, hu, hH⟩, h4, h5, h6, h7, h8, h9, h10⟩ => by
    subst hu; subst hH
    obtain ⟨k1, k2⟩ := (Cvt.frz (g := AV.den ρ' _) (m := []) rfl rfl (by rw [List.drop_zero, List.take_of_length_le (by omega)]) hn rfl).sound h5 rfl (CvH.nil) h4
    refine ⟨_, [], reB ρ' [], _, h3.trans (congrArg Ending.returned k1.symm), ⟨_, rfl, rfl⟩, k2, h5.re rfl (by simp) (CvH.nil (g := AV.den ρ' _) (fz := true)), h6, fun b hb => ?_, fun i B hi => by rw [atB_reB] at hi; simp at hi, fun i hi => absurd hi (Nat.not_lt_zero _), fun h => by cases h⟩
    rcases hb with hb | ⟨_, b2, e, sz, cap, rows, g3, g4, g5⟩
    · exact h7 b hb
    · rcases h8 b2 b g3 with g6 | ⟨g6, _⟩
      · exact .inr g6
      · exact absurd g6 (Nat.not_lt_zero _)
def splF (l : List Leg) (leg at_ : Int) : Int := if leg < 0 ∨ (l.length : Int) ≤ leg then 8 else match l[leg.toNat]? with
  | some x => if at_ < 1 ∨ x.long ≤ at_ then 1 else if 2000 ≤ l.length then 2 else 0
  | none => 0
def splL (l : List Leg) (i : Nat) (x : Leg) (at_ : Int) : List Leg := l.take i ++ (⟨at_, x.limit⟩ :: ⟨x.long - at_, x.limit⟩ :: l.drop (i + 1))
def splC (cs : List Int) (i : Nat) (x : Leg) : List Int := cs.take i ++ (x.limit :: cs.drop i)
/-- What Split gives of right arguments. -/
def splR (l : List Leg) (cs : List Int) (leg at_ : Int) : List Leg × List Int := match l[leg.toNat]? with
  | some x => (splL l leg.toNat x at_, splC cs leg.toNat x)
  | none => ([], [])
end Go.Proofs.YtdmeohgojdfmoaaGreatDoor

/- A leg divided by the program, by value. -/
namespace Go.Proofs.YtdmeohgojdfmoaaGreatDoor
open Go Go.RowKit
set_option maxRecDepth 100000
-- NEWM
def splV (l : List Leg) (cs : List Int) (leg at_ : Int) : Int := if cornersF l cs ≠ 0 then cornersF l cs else splF l leg at_
set_option maxHeartbeats 4000000 in
theorem split_a (l : List Leg) (cs : List Int) (v w : Value) (leg at_ : Int) (hll : l.length ≤ 1000000) (hcc : cs.length ≤ 1000000) : ACalls Tryz.prog 42 [.c (legs_r v l), .c (ints_r w cs), .c (I leg), .c (I at_)] [] fun u H =>
    ∃ v' w', u = .t [.c (legs_r v' (if splV l cs leg at_ = 0 then (splR l cs leg at_).1 else [])), .c (ints_r w' (if splV l cs leg at_ = 0 then (splR l cs leg at_).2 else [])), .c (I (splV l cs leg at_))] ∧ H = [] := by
  have e1 : (l.map Leg.row).length = l.length := by simp
  have e2 : (cs.map fun z => [I z]).length = cs.length := by simp
  refine acalls_of (N := 70) Tryz.func42 rfl rfl (by simp) fun E hE => ?_
  refine WA ?_
  refine WR ?_
  refine al_ef rfl (ef_call0 false (fun _ => corners1_a l cs v w (by omega) (by omega)) rfl .fn rfl (by decide) (by kernel_rfl) rfl (fun _ => C0 rfl) (by simp)) ?_
  rintro _ _ ⟨_, _, _, ⟨rfl, rfl⟩, hF, hH⟩
  (try simp only [nsl, Nat.reduceAdd, Nat.reduceLT, Nat.reduceSub] at hF); (try simp only [nsl, Nat.reduceAdd, Nat.reduceLT, Nat.reduceSub] at hH); subst hF; subst hH
  refine WE ?_
  refine WA ?_
  refine aw_if rfl (fun h0 => ?_) (fun h0 => ?_)
  · have hv : splV l cs leg at_ = cornersF l cs := by rw [splV, if_pos h0]
    refine WA ?_
    exact aret_of (us := [.c (legs_r (.slice none 0 0) []), .c (ints_r (.slice none 0 0) []), .c (I (cornersF l cs))]) [] (fun _ => .t [.c (legs_r (.slice none 0 0) []), .c (ints_r (.slice none 0 0) []), .c (I (cornersF l cs))]) (fun _ => []) (.tmp rfl (.tmp rfl (.tmp rfl .nil))) (by decide) (ZNK rfl) (fun _ => .tL (C0 rfl)) (fun _ => .nil) (fun _ => ⟨_, _, by rw [hv, if_neg (by omega), if_neg (by omega)], rfl⟩)
  have h00 : cornersF l cs = 0 := by omega
  obtain ⟨r1, r2, r3, r4, r5⟩ := cornersF_ok h00
  refine ZZ ?_
  by_cases hl : 0 ≤ leg ∧ leg < l.length
  · obtain ⟨i, rfl⟩ : ∃ i : Nat, leg = i := ⟨leg.toNat, by omega⟩
    obtain ⟨x, hx⟩ : ∃ x, l[i]? = some x := ⟨_, List.getElem?_eq_getElem (by omega)⟩
    have hrow : (l.map Leg.row)[i]? = some [I x.long, I x.limit] := by rw [List.getElem?_map, hx]; rfl
    obtain ⟨g1, g2, g3, g4⟩ := r3 x (List.mem_of_getElem? hx)
    have hsp : splV l cs i at_ = if at_ < 1 ∨ x.long ≤ at_ then 1 else if 2000 ≤ l.length then 2 else 0 := by
      unfold splV splF; rw [if_neg h0, if_neg (by omega)]; simp only [Int.toNat_natCast, hx]
    have hsr : splR l cs i at_ = (splL l i x at_, splC cs i x) := by unfold splR; simp only [Int.toNat_natCast, hx]
    refine WA ?_
    refine aw_cond_f rfl ?_
    refine ZZ ?_
    refine WA ?_
    by_cases ha : 1 ≤ at_ ∧ at_ < x.long
    · rw [if_neg (by omega)] at hsp
      refine WA ?_
      refine aw_cond_f rfl ?_
      refine ZZ ?_
      refine WA ?_
      refine aw_if rfl (fun h2 => ?_) (fun h2 => ?_)
      · have hv : splV l cs i at_ = 2 := by rw [hsp, if_pos (by omega)]
        refine WA ?_
        exact aret_of (us := [.c (legs_r (.slice none 0 0) []), .c (ints_r (.slice none 0 0) []), .c (I 2)]) [] (fun _ => .t [.c (legs_r (.slice none 0 0) []), .c (ints_r (.slice none 0 0) []), .c (I 2)]) (fun _ => []) (.tmp rfl (.tmp rfl (.tmp rfl .nil))) (by decide) (ZNK rfl) (fun _ => .tL (C0 rfl)) (fun _ => .nil) (fun _ => ⟨_, _, by rw [hv, if_neg (by omega), if_neg (by omega)], rfl⟩)
      have hv0 : splV l cs i at_ = 0 := by rw [hsp, if_neg (by omega)]
      have hil : i < l.length := by omega
      refine ZZ ?_
      refine aw_cut (fun F H => ∃ cL : Nat, F = [(1, .c (ints_r w cs)), (2, .c (I i)), (3, .c (I at_)), (12, .p 0 0 0), (13, .o 1 0 ((l.map Leg.row).length + 1) cL)] ∧ H = [.box (x.row.map .c), .arr 38 2 cL ((l.map Leg.row).take i ++ [I at_, I x.limit] :: (l.map Leg.row).drop i)]) ?_ ?_ wk_aw
      · refine ZZ ?_
        refine aw_regionM [[(0, none), (2, none), (3, none), (4, none), (5, none), (6, none), (1, some [2, 3, 4, 5, 6]), (7, some [0, 2]), (8, some []), (9, none)], [(0, none), (2, none), (3, none), (4, none), (5, none), (6, none), (7, some [0, 2]), (1, some [2, 3, 4, 5, 6]), (8, some []), (9, none)]] hMixed (by kernel_rfl) ?_
        focus
          refine WM ?_
          refine am_two (by rfl) (by rfl) (by rfl) ?_ ?_
          rotate_left
          refine WM ?_
          refine am_ef (i := 1) (by rfl) (by rfl) rfl rfl (ef_call0 true (fun _ => cloneL_a (l.map Leg.row) v (okLegs l) (by omega)) rfl .fn rfl (by decide) (by kernel_rfl) rfl (fun _ => .cons (.c rfl) .nil) (fun _ _ u Hr ⟨c, _, hu, hH⟩ => by rw [hu, hH]; exact ⟨.o, fun o ho => by rw [List.mem_singleton.1 ho]; exact leg_flat _ _⟩)) ?_
          rintro _ _ ⟨_, _, _, ⟨c1, hc1, rfl, rfl⟩, hF, hH⟩
          (try simp only [nsl, Nat.reduceAdd, Nat.reduceLT, Nat.reduceSub] at hF); (try simp only [nsl, Nat.reduceAdd, Nat.reduceLT, Nat.reduceSub] at hH); subst hF; subst hH
          refine ⟨AGX, ?_⟩
          first | refine am_ef (i := 8) (by rfl) (by rfl) rfl rfl (ef_call [1, 2] (fun _ => [.arr 38 2 c1 (l.map Leg.row), .arr 38 2 1 [[I at_, I x.limit]]]) false (fun _ => insL_a [I at_, I x.limit] (l.map Leg.row) i c1 (by omega) (by omega) (by omega)) rfl .fn rfl (by decide) (by kernel_rfl) rfl (fun _ => .cons (.o rfl rfl) (.cons (.c rfl) (.cons (.o rfl rfl) .nil))) (by decide) (fun _ => .arr rfl rfl (.arr rfl rfl .nil)) (by simp)) ?_ | refine am_ef (i := 8) (by rfl) (by rfl) rfl rfl (ef_call [2, 1] (fun _ => [.arr 38 2 c1 (l.map Leg.row), .arr 38 2 1 [[I at_, I x.limit]]]) false (fun _ => insL_a [I at_, I x.limit] (l.map Leg.row) i c1 (by omega) (by omega) (by omega)) rfl .fn rfl (by decide) (by kernel_rfl) rfl (fun _ => .cons (.o rfl rfl) (.cons (.c rfl) (.cons (.o rfl rfl) .nil))) (by decide) (fun _ => .arr rfl rfl (.arr rfl rfl .nil)) (by simp)) ?_
          rintro F1 H1 ⟨_, _, _, _, ⟨c2, rfl, rfl⟩ | ⟨c2, rfl, rfl⟩, hF, hH⟩ <;> ((try simp only [List.set_cons_zero, List.set_cons_succ, updH, posOf, lentArr, killF, killO, killV, AV.has, AV.hasL, AV.emb, AV.embL, OB.emb, embB, List.filter_cons, List.filter_nil, List.getElem?_cons_zero, List.getElem?_cons_succ, List.getD_cons_zero, List.getD_cons_succ, List.drop_succ_cons, List.drop_zero, List.drop_nil, List.contains_cons, List.contains_nil, Nat.reduceBEq, Nat.reduceEqDiff, beq_self_eq_true, Bool.or_false, Bool.false_or, Bool.or_true, Bool.true_or, Bool.false_eq_true, Option.map_some, Option.map_none, List.map_cons, List.map_nil, List.cons_append, List.nil_append, List.append_nil, List.length_cons, List.length_nil, Nat.reduceAdd, Nat.reduceLT, Nat.reduceSub, if_true, if_false, Nat.zero_add, Nat.add_zero, Nat.sub_zero, Nat.lt_irrefl, Nat.not_lt_zero, Nat.zero_lt_one, Nat.lt_add_one] at hF); (try simp only [List.set_cons_zero, List.set_cons_succ, updH, posOf, lentArr, killF, killO, killV, AV.has, AV.hasL, AV.emb, AV.embL, OB.emb, embB, List.filter_cons, List.filter_nil, List.getElem?_cons_zero, List.getElem?_cons_succ, List.getD_cons_zero, List.getD_cons_succ, List.drop_succ_cons, List.drop_zero, List.drop_nil, List.contains_cons, List.contains_nil, Nat.reduceBEq, Nat.reduceEqDiff, beq_self_eq_true, Bool.or_false, Bool.false_or, Bool.or_true, Bool.true_or, Bool.false_eq_true, Option.map_some, Option.map_none, List.map_cons, List.map_nil, List.cons_append, List.nil_append, List.append_nil, List.length_cons, List.length_nil, Nat.reduceAdd, Nat.reduceLT, Nat.reduceSub, if_true, if_false, Nat.zero_add, Nat.add_zero, Nat.sub_zero, Nat.lt_irrefl, Nat.not_lt_zero, Nat.zero_lt_one, Nat.lt_add_one] at hH); subst hF; subst hH; refine ⟨AGX, ?_⟩; refine WN ?_)
          rotate_right
          refine am_ef (i := 1) (by rfl) (by rfl) rfl rfl (ef_call0 true (fun _ => cloneL_a (l.map Leg.row) v (okLegs l) (by omega)) rfl .fn rfl (by decide) (by kernel_rfl) rfl (fun _ => .cons (.c rfl) .nil) (fun _ _ u Hr ⟨c, _, hu, hH⟩ => by rw [hu, hH]; exact ⟨.o, fun o ho => by rw [List.mem_singleton.1 ho]; exact leg_flat _ _⟩)) ?_
          rintro _ _ ⟨_, _, _, ⟨c1, hc1, rfl, rfl⟩, hF, hH⟩
          (try simp only [nsl, Nat.reduceAdd, Nat.reduceLT, Nat.reduceSub] at hF); (try simp only [nsl, Nat.reduceAdd, Nat.reduceLT, Nat.reduceSub] at hH); subst hF; subst hH
          refine ⟨AGX, ?_⟩
          refine WM ?_
          first | refine am_ef (i := 8) (by rfl) (by rfl) rfl rfl (ef_call [1, 2] (fun _ => [.arr 38 2 c1 (l.map Leg.row), .arr 38 2 1 [[I at_, I x.limit]]]) false (fun _ => insL_a [I at_, I x.limit] (l.map Leg.row) i c1 (by omega) (by omega) (by omega)) rfl .fn rfl (by decide) (by kernel_rfl) rfl (fun _ => .cons (.o rfl rfl) (.cons (.c rfl) (.cons (.o rfl rfl) .nil))) (by decide) (fun _ => .arr rfl rfl (.arr rfl rfl .nil)) (by simp)) ?_ | refine am_ef (i := 8) (by rfl) (by rfl) rfl rfl (ef_call [2, 1] (fun _ => [.arr 38 2 c1 (l.map Leg.row), .arr 38 2 1 [[I at_, I x.limit]]]) false (fun _ => insL_a [I at_, I x.limit] (l.map Leg.row) i c1 (by omega) (by omega) (by omega)) rfl .fn rfl (by decide) (by kernel_rfl) rfl (fun _ => .cons (.o rfl rfl) (.cons (.c rfl) (.cons (.o rfl rfl) .nil))) (by decide) (fun _ => .arr rfl rfl (.arr rfl rfl .nil)) (by simp)) ?_
          rintro F1 H1 ⟨_, _, _, _, ⟨c2, rfl, rfl⟩ | ⟨c2, rfl, rfl⟩, hF, hH⟩ <;> ((try simp only [List.set_cons_zero, List.set_cons_succ, updH, posOf, lentArr, killF, killO, killV, AV.has, AV.hasL, AV.emb, AV.embL, OB.emb, embB, List.filter_cons, List.filter_nil, List.getElem?_cons_zero, List.getElem?_cons_succ, List.getD_cons_zero, List.getD_cons_succ, List.drop_succ_cons, List.drop_zero, List.drop_nil, List.contains_cons, List.contains_nil, Nat.reduceBEq, Nat.reduceEqDiff, beq_self_eq_true, Bool.or_false, Bool.false_or, Bool.or_true, Bool.true_or, Bool.false_eq_true, Option.map_some, Option.map_none, List.map_cons, List.map_nil, List.cons_append, List.nil_append, List.append_nil, List.length_cons, List.length_nil, Nat.reduceAdd, Nat.reduceLT, Nat.reduceSub, if_true, if_false, Nat.zero_add, Nat.add_zero, Nat.sub_zero, Nat.lt_irrefl, Nat.not_lt_zero, Nat.zero_lt_one, Nat.lt_add_one] at hF); (try simp only [List.set_cons_zero, List.set_cons_succ, updH, posOf, lentArr, killF, killO, killV, AV.has, AV.hasL, AV.emb, AV.embL, OB.emb, embB, List.filter_cons, List.filter_nil, List.getElem?_cons_zero, List.getElem?_cons_succ, List.getD_cons_zero, List.getD_cons_succ, List.drop_succ_cons, List.drop_zero, List.drop_nil, List.contains_cons, List.contains_nil, Nat.reduceBEq, Nat.reduceEqDiff, beq_self_eq_true, Bool.or_false, Bool.false_or, Bool.or_true, Bool.true_or, Bool.false_eq_true, Option.map_some, Option.map_none, List.map_cons, List.map_nil, List.cons_append, List.nil_append, List.append_nil, List.length_cons, List.length_nil, Nat.reduceAdd, Nat.reduceLT, Nat.reduceSub, if_true, if_false, Nat.zero_add, Nat.add_zero, Nat.sub_zero, Nat.lt_irrefl, Nat.not_lt_zero, Nat.zero_lt_one, Nat.lt_add_one] at hH); subst hF; subst hH; refine ⟨AGX, ?_⟩; refine WN ?_)
        all_goals first
          | exact wk_of [some 0, some 1] (fun _ => [(1, .c (ints_r w cs)), (2, .c (I i)), (3, .c (I at_)), (12, .p 0 0 0), (13, .o 1 0 ((l.map Leg.row).length + 1) c2)]) (fun _ => [.box (x.row.map .c), .arr 38 2 c2 ((l.map Leg.row).take i ++ [I at_, I x.limit] :: (l.map Leg.row).drop i)]) (by decide) (ZNL hE) ZCF ZCH (fun _ => ⟨c2, rfl, rfl⟩)
          | exact wk_of [some 0, some 2] (fun _ => [(1, .c (ints_r w cs)), (2, .c (I i)), (3, .c (I at_)), (12, .p 0 0 0), (13, .o 1 0 ((l.map Leg.row).length + 1) c2)]) (fun _ => [.box (x.row.map .c), .arr 38 2 c2 ((l.map Leg.row).take i ++ [I at_, I x.limit] :: (l.map Leg.row).drop i)]) (by decide) (ZNL hE) ZCF ZCH (fun _ => ⟨c2, rfl, rfl⟩)
          | exact wk_of [some 0, some 3] (fun _ => [(1, .c (ints_r w cs)), (2, .c (I i)), (3, .c (I at_)), (12, .p 0 0 0), (13, .o 1 0 ((l.map Leg.row).length + 1) c2)]) (fun _ => [.box (x.row.map .c), .arr 38 2 c2 ((l.map Leg.row).take i ++ [I at_, I x.limit] :: (l.map Leg.row).drop i)]) (by decide) (ZNL hE) ZCF ZCH (fun _ => ⟨c2, rfl, rfl⟩)
      rintro F H ⟨cL, rfl, rfl⟩
      have hdr : (l.map Leg.row).drop i = [I x.long, I x.limit] :: (l.map Leg.row).drop (i + 1) := by
        rw [← List.map_drop, drop_consk hx, List.map_cons, List.map_drop]
      have hti : ((l.map Leg.row).take i).length = i := by simp; omega
      have hr1 : ((l.map Leg.row).take i ++ [I at_, I x.limit] :: (l.map Leg.row).drop i)[i + 1]? = some [I x.long, I x.limit] := by
        rw [hdr, List.getElem?_append_right (by omega), hti, show i + 1 - i = 1 from by omega]; rfl
      have hset : ((l.map Leg.row).take i ++ [I at_, I x.limit] :: (l.map Leg.row).drop i).set (i + 1) [I (x.long - at_), I x.limit] = (splL l i x at_).map Leg.row := by
        rw [hdr, List.set_append_right _ _ (by omega), hti, show i + 1 - i = 1 from by omega]
        simp [splL, List.map_append, List.map_take, List.map_drop]
      have hfL : ((((l.map Leg.row).take i ++ [I at_, I x.limit] :: (l.map Leg.row).drop i).set (i + 1) [I (x.long - at_), I x.limit]).drop 0).take ((l.map Leg.row).length + 1) = (splL l i x at_).map Leg.row := by
        rw [hset, List.drop_zero, List.take_of_length_le (by simp [splL]; omega)]
      have hlL : ((splL l i x at_).map Leg.row).length = (l.map Leg.row).length + 1 := by simp [splL]; omega
      have hci : (cs.map fun z => [I z]).take i ++ [I x.limit] :: (cs.map fun z => [I z]).drop i = (splC cs i x).map fun z => [I z] := by
        simp [splC, List.map_append, List.map_take, List.map_drop]
      have hlI : ((splC cs i x).map fun z => [I z]).length = (cs.map fun z => [I z]).length + 1 := by simp [splC]; omega
      have hfI : (((cs.map fun z => [I z]).take i ++ [I x.limit] :: (cs.map fun z => [I z]).drop i).drop 0).take ((cs.map fun z => [I z]).length + 1) = (splC cs i x).map fun z => [I z] := by
        rw [hci, List.drop_zero, List.take_of_length_le (by omega)]
      refine ZR ?_
      iterate 2 refine WX1 ?_
      refine ZA (rd_addz (z := ((i + 1 : Nat) : Int)) rfl rfl rfl (by omega) (by omega)) ?_
      refine WE ?_
      refine ZZ ?_
      refine aw_regionM [[(0, none), (1, none), (3, none), (4, none), (5, none), (2, some [0, 3, 4, 5]), (6, some [0, 1, 3]), (7, some [0]), (8, none), (9, none), (10, none)], [(0, none), (1, none), (3, none), (4, none), (5, none), (6, some [0, 1, 3]), (2, some [0, 3, 4, 5]), (7, some [0]), (8, none), (9, none), (10, none)]] hMixed (by kernel_rfl) ?_
      focus
        refine WM ?_
        refine am_two (by rfl) (by rfl) (by rfl) ?_ ?_
        rotate_left
        refine WM ?_
        refine am_ef (i := 2) (by rfl) (by rfl) rfl rfl (ef_call0 true (fun _ => cloneI_a (cs.map fun z => [I z]) w (okInts cs) (by omega)) rfl .fn rfl (by decide) (by kernel_rfl) rfl (fun _ => .cons (.c rfl) .nil) (fun _ _ u Hr ⟨c, _, hu, hH⟩ => by rw [hu, hH]; exact ⟨.o, fun o ho => by rw [List.mem_singleton.1 ho]; exact int_flat _ _⟩)) ?_
        rintro _ _ ⟨_, _, _, ⟨c2, hc2, rfl, rfl⟩, hF, hH⟩
        (try simp only [nsl, Nat.reduceAdd, Nat.reduceLT, Nat.reduceSub] at hF); (try simp only [nsl, Nat.reduceAdd, Nat.reduceLT, Nat.reduceSub] at hH); subst hF; subst hH
        refine ⟨AGX, ?_⟩
        first | refine am_ef (i := 7) (by rfl) (by rfl) rfl rfl (ef_call [2, 3] (fun _ => [.arr 3 1 c2 (cs.map fun z => [I z]), .arr 3 1 1 [[I x.limit]]]) false (fun _ => insI_a [I x.limit] (cs.map fun z => [I z]) i c2 (by omega) (by omega) (by omega)) rfl .fn rfl (by decide) (by kernel_rfl) rfl (fun _ => .cons (.o rfl rfl) (.cons (.c rfl) (.cons (.o rfl rfl) .nil))) (by decide) (fun _ => .arr rfl rfl (.arr rfl rfl .nil)) (by simp)) ?_ | refine am_ef (i := 7) (by rfl) (by rfl) rfl rfl (ef_call [3, 2] (fun _ => [.arr 3 1 c2 (cs.map fun z => [I z]), .arr 3 1 1 [[I x.limit]]]) false (fun _ => insI_a [I x.limit] (cs.map fun z => [I z]) i c2 (by omega) (by omega) (by omega)) rfl .fn rfl (by decide) (by kernel_rfl) rfl (fun _ => .cons (.o rfl rfl) (.cons (.c rfl) (.cons (.o rfl rfl) .nil))) (by decide) (fun _ => .arr rfl rfl (.arr rfl rfl .nil)) (by simp)) ?_
        rintro F1 H1 ⟨_, _, _, _, ⟨c3, rfl, rfl⟩ | ⟨c3, rfl, rfl⟩, hF, hH⟩ <;> ((try simp only [List.set_cons_zero, List.set_cons_succ, updH, posOf, lentArr, killF, killO, killV, AV.has, AV.hasL, AV.emb, AV.embL, OB.emb, embB, List.filter_cons, List.filter_nil, List.getElem?_cons_zero, List.getElem?_cons_succ, List.getD_cons_zero, List.getD_cons_succ, List.drop_succ_cons, List.drop_zero, List.drop_nil, List.contains_cons, List.contains_nil, Nat.reduceBEq, Nat.reduceEqDiff, beq_self_eq_true, Bool.or_false, Bool.false_or, Bool.or_true, Bool.true_or, Bool.false_eq_true, Option.map_some, Option.map_none, List.map_cons, List.map_nil, List.cons_append, List.nil_append, List.append_nil, List.length_cons, List.length_nil, Nat.reduceAdd, Nat.reduceLT, Nat.reduceSub, if_true, if_false, Nat.zero_add, Nat.add_zero, Nat.sub_zero, Nat.lt_irrefl, Nat.not_lt_zero, Nat.zero_lt_one, Nat.lt_add_one] at hF); (try simp only [List.set_cons_zero, List.set_cons_succ, updH, posOf, lentArr, killF, killO, killV, AV.has, AV.hasL, AV.emb, AV.embL, OB.emb, embB, List.filter_cons, List.filter_nil, List.getElem?_cons_zero, List.getElem?_cons_succ, List.getD_cons_zero, List.getD_cons_succ, List.drop_succ_cons, List.drop_zero, List.drop_nil, List.contains_cons, List.contains_nil, Nat.reduceBEq, Nat.reduceEqDiff, beq_self_eq_true, Bool.or_false, Bool.false_or, Bool.or_true, Bool.true_or, Bool.false_eq_true, Option.map_some, Option.map_none, List.map_cons, List.map_nil, List.cons_append, List.nil_append, List.append_nil, List.length_cons, List.length_nil, Nat.reduceAdd, Nat.reduceLT, Nat.reduceSub, if_true, if_false, Nat.zero_add, Nat.add_zero, Nat.sub_zero, Nat.lt_irrefl, Nat.not_lt_zero, Nat.zero_lt_one, Nat.lt_add_one] at hH); subst hF; subst hH; refine ⟨AGX, ?_⟩; refine WN ?_)
        rotate_right
        refine am_ef (i := 2) (by rfl) (by rfl) rfl rfl (ef_call0 true (fun _ => cloneI_a (cs.map fun z => [I z]) w (okInts cs) (by omega)) rfl .fn rfl (by decide) (by kernel_rfl) rfl (fun _ => .cons (.c rfl) .nil) (fun _ _ u Hr ⟨c, _, hu, hH⟩ => by rw [hu, hH]; exact ⟨.o, fun o ho => by rw [List.mem_singleton.1 ho]; exact int_flat _ _⟩)) ?_
        rintro _ _ ⟨_, _, _, ⟨c2, hc2, rfl, rfl⟩, hF, hH⟩
        (try simp only [nsl, Nat.reduceAdd, Nat.reduceLT, Nat.reduceSub] at hF); (try simp only [nsl, Nat.reduceAdd, Nat.reduceLT, Nat.reduceSub] at hH); subst hF; subst hH
        refine ⟨AGX, ?_⟩
        refine WM ?_
        first | refine am_ef (i := 7) (by rfl) (by rfl) rfl rfl (ef_call [2, 3] (fun _ => [.arr 3 1 c2 (cs.map fun z => [I z]), .arr 3 1 1 [[I x.limit]]]) false (fun _ => insI_a [I x.limit] (cs.map fun z => [I z]) i c2 (by omega) (by omega) (by omega)) rfl .fn rfl (by decide) (by kernel_rfl) rfl (fun _ => .cons (.o rfl rfl) (.cons (.c rfl) (.cons (.o rfl rfl) .nil))) (by decide) (fun _ => .arr rfl rfl (.arr rfl rfl .nil)) (by simp)) ?_ | refine am_ef (i := 7) (by rfl) (by rfl) rfl rfl (ef_call [3, 2] (fun _ => [.arr 3 1 c2 (cs.map fun z => [I z]), .arr 3 1 1 [[I x.limit]]]) false (fun _ => insI_a [I x.limit] (cs.map fun z => [I z]) i c2 (by omega) (by omega) (by omega)) rfl .fn rfl (by decide) (by kernel_rfl) rfl (fun _ => .cons (.o rfl rfl) (.cons (.c rfl) (.cons (.o rfl rfl) .nil))) (by decide) (fun _ => .arr rfl rfl (.arr rfl rfl .nil)) (by simp)) ?_
        rintro F1 H1 ⟨_, _, _, _, ⟨c3, rfl, rfl⟩ | ⟨c3, rfl, rfl⟩, hF, hH⟩ <;> ((try simp only [List.set_cons_zero, List.set_cons_succ, updH, posOf, lentArr, killF, killO, killV, AV.has, AV.hasL, AV.emb, AV.embL, OB.emb, embB, List.filter_cons, List.filter_nil, List.getElem?_cons_zero, List.getElem?_cons_succ, List.getD_cons_zero, List.getD_cons_succ, List.drop_succ_cons, List.drop_zero, List.drop_nil, List.contains_cons, List.contains_nil, Nat.reduceBEq, Nat.reduceEqDiff, beq_self_eq_true, Bool.or_false, Bool.false_or, Bool.or_true, Bool.true_or, Bool.false_eq_true, Option.map_some, Option.map_none, List.map_cons, List.map_nil, List.cons_append, List.nil_append, List.append_nil, List.length_cons, List.length_nil, Nat.reduceAdd, Nat.reduceLT, Nat.reduceSub, if_true, if_false, Nat.zero_add, Nat.add_zero, Nat.sub_zero, Nat.lt_irrefl, Nat.not_lt_zero, Nat.zero_lt_one, Nat.lt_add_one] at hF); (try simp only [List.set_cons_zero, List.set_cons_succ, updH, posOf, lentArr, killF, killO, killV, AV.has, AV.hasL, AV.emb, AV.embL, OB.emb, embB, List.filter_cons, List.filter_nil, List.getElem?_cons_zero, List.getElem?_cons_succ, List.getD_cons_zero, List.getD_cons_succ, List.drop_succ_cons, List.drop_zero, List.drop_nil, List.contains_cons, List.contains_nil, Nat.reduceBEq, Nat.reduceEqDiff, beq_self_eq_true, Bool.or_false, Bool.false_or, Bool.or_true, Bool.true_or, Bool.false_eq_true, Option.map_some, Option.map_none, List.map_cons, List.map_nil, List.cons_append, List.nil_append, List.append_nil, List.length_cons, List.length_nil, Nat.reduceAdd, Nat.reduceLT, Nat.reduceSub, if_true, if_false, Nat.zero_add, Nat.add_zero, Nat.sub_zero, Nat.lt_irrefl, Nat.not_lt_zero, Nat.zero_lt_one, Nat.lt_add_one] at hH); subst hF; subst hH; refine ⟨AGX, ?_⟩; refine WN ?_)
      all_goals first
        | (
          exact aret_of (us := [.o 1 0 ((l.map Leg.row).length + 1) cL, .o 2 0 ((cs.map fun z => [I z]).length + 1) c3, .c (I 0)]) [] (fun g => .t [.c (legs_r (g (.o 1 0 ((l.map Leg.row).length + 1) cL)) (splL l i x at_)), .c (ints_r (g (.o 2 0 ((cs.map fun z => [I z]).length + 1) c3)) (splC cs i x)), .c (I 0)]) (fun _ => []) (.tmp rfl (.tmp rfl (.tmp rfl .nil))) (by decide) (ZNK rfl) (fun _ => .tL (.cons (.frz rfl rfl hfL hlL rfl) (.cons (.frz rfl rfl hfI hlI rfl) (.cons (.c rfl) .nil)))) (fun _ => .nil) (fun _ => ⟨_, _, by rw [hv0, if_pos rfl, if_pos rfl, hsr], rfl⟩)
          )
        | (
          exact aret_of (us := [.o 1 0 ((l.map Leg.row).length + 1) cL, .o 3 0 ((cs.map fun z => [I z]).length + 1) c3, .c (I 0)]) [] (fun g => .t [.c (legs_r (g (.o 1 0 ((l.map Leg.row).length + 1) cL)) (splL l i x at_)), .c (ints_r (g (.o 3 0 ((cs.map fun z => [I z]).length + 1) c3)) (splC cs i x)), .c (I 0)]) (fun _ => []) (.tmp rfl (.tmp rfl (.tmp rfl .nil))) (by decide) (ZNK rfl) (fun _ => .tL (.cons (.frz rfl rfl hfL hlL rfl) (.cons (.frz rfl rfl hfI hlI rfl) (.cons (.c rfl) .nil)))) (fun _ => .nil) (fun _ => ⟨_, _, by rw [hv0, if_pos rfl, if_pos rfl, hsr], rfl⟩)
          )
        | (
          exact aret_of (us := [.o 1 0 ((l.map Leg.row).length + 1) cL, .o 4 0 ((cs.map fun z => [I z]).length + 1) c3, .c (I 0)]) [] (fun g => .t [.c (legs_r (g (.o 1 0 ((l.map Leg.row).length + 1) cL)) (splL l i x at_)), .c (ints_r (g (.o 4 0 ((cs.map fun z => [I z]).length + 1) c3)) (splC cs i x)), .c (I 0)]) (fun _ => []) (.tmp rfl (.tmp rfl (.tmp rfl .nil))) (by decide) (ZNK rfl) (fun _ => .tL (.cons (.frz rfl rfl hfL hlL rfl) (.cons (.frz rfl rfl hfI hlI rfl) (.cons (.c rfl) .nil)))) (fun _ => .nil) (fun _ => ⟨_, _, by rw [hv0, if_pos rfl, if_pos rfl, hsr], rfl⟩)
          )
    · have hv : splV l cs i at_ = 1 := by rw [hsp, if_pos (by omega)]
      rcases (by omega : at_ < 1 ∨ (¬ at_ < 1 ∧ x.long ≤ at_)) with ha1 | ⟨ha1, ha2⟩
      · refine WA ?_
        refine aw_cond_t rfl ?_
        refine WA ?_
        exact aret_of (us := [.c (legs_r (.slice none 0 0) []), .c (ints_r (.slice none 0 0) []), .c (I 1)]) [] (fun _ => .t [.c (legs_r (.slice none 0 0) []), .c (ints_r (.slice none 0 0) []), .c (I 1)]) (fun _ => []) (.tmp rfl (.tmp rfl (.tmp rfl .nil))) (by decide) (ZNK rfl) (fun _ => .tL (C0 rfl)) (fun _ => .nil) (fun _ => ⟨_, _, by rw [hv, if_neg (by omega), if_neg (by omega)], rfl⟩)
      · refine WA ?_
        refine aw_cond_t rfl ?_
        refine WA ?_
        exact aret_of (us := [.c (legs_r (.slice none 0 0) []), .c (ints_r (.slice none 0 0) []), .c (I 1)]) [] (fun _ => .t [.c (legs_r (.slice none 0 0) []), .c (ints_r (.slice none 0 0) []), .c (I 1)]) (fun _ => []) (.tmp rfl (.tmp rfl (.tmp rfl .nil))) (by decide) (ZNK rfl) (fun _ => .tL (C0 rfl)) (fun _ => .nil) (fun _ => ⟨_, _, by rw [hv, if_neg (by omega), if_neg (by omega)], rfl⟩)
  · have hv : splV l cs leg at_ = 8 := by rw [splV, if_neg h0, splF, if_pos (by omega)]
    rcases (by omega : leg < 0 ∨ (¬ leg < 0 ∧ (l.length : Int) ≤ leg)) with hl1 | ⟨hl1, hl2⟩
    · refine WA ?_
      refine aw_cond_t rfl ?_
      refine WA ?_
      exact aret_of (us := [.c (legs_r (.slice none 0 0) []), .c (ints_r (.slice none 0 0) []), .c (I 8)]) [] (fun _ => .t [.c (legs_r (.slice none 0 0) []), .c (ints_r (.slice none 0 0) []), .c (I 8)]) (fun _ => []) (.tmp rfl (.tmp rfl (.tmp rfl .nil))) (by decide) (ZNK rfl) (fun _ => .tL (C0 rfl)) (fun _ => .nil) (fun _ => ⟨_, _, by rw [hv, if_neg (by omega), if_neg (by omega)], rfl⟩)
    · refine WA ?_
      refine aw_cond_t rfl ?_
      refine WA ?_
      exact aret_of (us := [.c (legs_r (.slice none 0 0) []), .c (ints_r (.slice none 0 0) []), .c (I 8)]) [] (fun _ => .t [.c (legs_r (.slice none 0 0) []), .c (ints_r (.slice none 0 0) []), .c (I 8)]) (fun _ => []) (.tmp rfl (.tmp rfl (.tmp rfl .nil))) (by decide) (ZNK rfl) (fun _ => .tL (C0 rfl)) (fun _ => .nil) (fun _ => ⟨_, _, by rw [hv, if_neg (by omega), if_neg (by omega)], rfl⟩)
end Go.Proofs.YtdmeohgojdfmoaaGreatDoor

/- Plain law: the other direction. -/
namespace Go.Proofs.YtdmeohgojdfmoaaGreatDoor
open Go Go.RowKit
theorem faultL_zero {l : List Leg} {cs : List Int} {ch : Int} (h : Right l cs) (hc : 1 ≤ ch ∧ ch ≤ 10000000) : faultL l cs ch = 0 := by
  obtain ⟨h1, h2, h3, h4, h5⟩ := h
  have e1 : legsF l = 0 := by
    unfold legsF
    rw [if_neg (by omega), if_neg (by omega), if_neg]
    simp only [List.any_eq_true, not_exists, not_and, Bool.not_eq_true]
    exact fun x hx => legBad_iff.2 (h3 x hx)
  have e2 : cornersF l cs = 0 := by
    unfold cornersF
    rw [if_neg (by omega), if_neg (by omega), if_neg]
    simp only [List.any_eq_true, not_exists, not_and, Bool.not_eq_true]
    exact fun z hz => cornerBad_f (h5 z hz).1 (h5 z hz).2
  unfold faultL changeF
  rw [if_neg (by omega), if_pos hc]
theorem Right.rev {l : List Leg} {cs : List Int} (h : Right l cs) : Right l.reverse cs.reverse :=
  ⟨by simpa using h.ne, by simpa using h.le, fun x hx => h.legs x (List.mem_reverse.1 hx), by simpa using h.len, fun z hz => h.cor z (List.mem_reverse.1 hz)⟩
theorem getD_rev {α : Type} {l : List α} {i : Nat} {z : α} (h : i < l.length) : l.reverse.getD i z = l.getD (l.length - 1 - i) z := by
  rw [List.getD_eq_getElem?_getD, List.getD_eq_getElem?_getD, List.getElem?_reverse h]
theorem capL_rev {l : List Leg} {cs : List Int} (h : Right l cs) {i : Nat} (hi : i ≤ l.length) : capL l.reverse cs.reverse i = capL l cs (l.length - i) := by
  have hn := h.len
  unfold capL
  rw [List.length_reverse]
  by_cases h0 : i = 0 ∨ l.length ≤ i
  · rw [if_pos h0, if_pos (by omega)]
  · rw [if_neg h0, if_neg (by omega), getD_rev (by omega), getD_rev (by omega), getD_rev (by omega),
      show cs.length - 1 - (i - 1) = l.length - i - 1 from by omega, show l.length - 1 - (i - 1) = l.length - i from by omega, show l.length - 1 - i = l.length - i - 1 from by omega]
    omega
theorem disL_rev {l : List Leg} {ch : Int} {i : Nat} (hi : i < l.length) : disL l.reverse ch i = disL l ch (l.length - 1 - i) := by
  unfold disL
  rw [getD_rev hi]
theorem speedsS_rev {l : List Leg} {cs : List Int} {ch : Int} (h : Right l cs) (hc : 1 ≤ ch) : speedsS l.reverse cs.reverse ch = (speedsS l cs ch).reverse := by
  have hb := speedsS_best h hc
  have e : ∀ i, i ≤ l.length → (speedsS l cs ch).reverse.getD i 0 = spd l.length (capL l cs) (disL l ch) (l.length - i) := fun i hi => by
    rw [getD_rev (by rw [speedsS_len]; omega), speedsS_len, show l.length + 1 - 1 - i = l.length - i from by omega]
    exact getD_of (speedsS_get (by omega))
  refine (speedsS_uniq h.rev hc (by simp [speedsS_len]) ?_).symm
  rw [List.length_reverse]
  refine ⟨⟨fun i hi => ?_, fun i hi => ?_⟩, fun w hw i hi => ?_⟩
  · show 0 ≤ (speedsS l cs ch).reverse.getD i 0 ∧ (speedsS l cs ch).reverse.getD i 0 ≤ _
    rw [e i hi, capL_rev h hi]
    exact hb.1.1 _ (by omega)
  · show (speedsS l cs ch).reverse.getD (i + 1) 0 ≤ rt ((speedsS l cs ch).reverse.getD i 0) _ ∧ (speedsS l cs ch).reverse.getD i 0 ≤ rt ((speedsS l cs ch).reverse.getD (i + 1) 0) _
    rw [e i (by omega), e (i + 1) (by omega), disL_rev hi]
    have := hb.1.2 (l.length - 1 - i) (by omega)
    rw [show l.length - 1 - i + 1 = l.length - i from by omega] at this
    rw [show l.length - (i + 1) = l.length - 1 - i from by omega]
    exact ⟨this.2, this.1⟩
  · show w i ≤ (speedsS l cs ch).reverse.getD i 0
    rw [e i hi]
    have := hb.2 (fun j => w (l.length - j)) ⟨fun j hj => ?_, fun j hj => ?_⟩ (l.length - i) (by omega)
    · rw [show l.length - (l.length - i) = i from by omega] at this
      exact this
    · have := hw.1 (l.length - j) (by omega)
      rw [capL_rev h (by omega), show l.length - (l.length - j) = j from by omega] at this
      exact this
    · have := hw.2 (l.length - 1 - j) (by omega)
      rw [disL_rev (by omega), show l.length - 1 - (l.length - 1 - j) = j from by omega, show l.length - 1 - j + 1 = l.length - j from by omega] at this
      show w (l.length - (j + 1)) ≤ rt (w (l.length - j)) _ ∧ w (l.length - j) ≤ rt (w (l.length - (j + 1))) _
      rw [show l.length - (j + 1) = l.length - 1 - j from by omega]
      exact ⟨this.2, this.1⟩
theorem spdL_rev {l : List Leg} {cs : List Int} {ch : Int} (h : Right l cs) (hc : 1 ≤ ch) {i : Nat} (hi : i ≤ l.length) : spdL l.reverse cs.reverse ch i = spdL l cs ch (l.length - i) := by
  have h1 := congrArg (fun q => q[i]?) (speedsS_rev h hc)
  have h2 : (speedsS l.reverse cs.reverse ch)[i]? = some (spdL l.reverse cs.reverse ch i) := speedsS_get (by rw [List.length_reverse]; exact hi)
  have h3 : (speedsS l cs ch).reverse[i]? = some (spdL l cs ch (l.length - i)) := by
    rw [List.getElem?_reverse (by rw [speedsS_len]; omega), speedsS_len, show l.length + 1 - 1 - i = l.length - i from by omega]
    exact speedsS_get (by omega)
  rw [h2, h3] at h1
  exact Option.some.inj h1
theorem peakF_comm (f t : Int) (x : Leg) (ch : Int) : peakF f t x ch = peakF t f x ch := by unfold peakF; rw [Int.add_comm (f * f)]
theorem numF_comm (f t : Int) (x : Leg) (ch : Int) : numF f t x ch = numF t f x ch := by unfold numF; rw [peakF_comm f t, Int.add_comm ((peakF t f x ch - f) * _)]
theorem denF_comm (f t : Int) (x : Leg) (ch : Int) : denF f t x ch = denF t f x ch := by unfold denF; rw [peakF_comm]
theorem upto_rev {f g : Nat → Int} {n : Nat} (h : ∀ i, i < n → f i = g (n - 1 - i)) : upto f n = (upto g n).reverse := by
  refine List.ext_getElem? fun i => ?_
  by_cases hi : i < n
  · rw [List.getElem?_reverse (by rw [upto_len]; exact hi), upto_len]
    unfold upto
    rw [List.getElem?_map, List.getElem?_map, List.getElem?_range hi, List.getElem?_range (by omega)]
    simp only [Option.map_some]
    rw [h i hi]
  · rw [List.getElem?_eq_none (by rw [upto_len]; omega), List.getElem?_eq_none (by rw [List.length_reverse, upto_len]; omega)]
theorem peaksS_rev {l : List Leg} {cs : List Int} {ch : Int} (h : Right l cs) (hc : 1 ≤ ch) : peaksS l.reverse cs.reverse ch = (peaksS l cs ch).reverse := by
  unfold peaksS
  rw [List.length_reverse]
  refine upto_rev fun i hi => ?_
  unfold peakL
  rw [spdL_rev h hc (by omega), spdL_rev h hc (by omega), show legD l.reverse i = legD l (l.length - 1 - i) from getD_rev hi, peakF_comm,
    show l.length - (i + 1) = l.length - 1 - i from by omega, show l.length - 1 - i + 1 = l.length - i from by omega]
theorem timesS_rev {l : List Leg} {cs : List Int} {ch : Int} (h : Right l cs) (hc : 1 ≤ ch) : timesS l.reverse cs.reverse ch = (timesS l cs ch).reverse := by
  unfold timesS
  rw [List.length_reverse]
  refine upto_rev fun i hi => ?_
  unfold timeL
  rw [spdL_rev h hc (by omega), spdL_rev h hc (by omega), show legD l.reverse i = legD l (l.length - 1 - i) from getD_rev hi, numF_comm, denF_comm,
    show l.length - (i + 1) = l.length - 1 - i from by omega, show l.length - 1 - i + 1 = l.length - i from by omega]
theorem sumW_acc : ∀ (l : List Int) (a : Int), l.foldl (fun a x => wrap64 (a + x)) (wrap64 a) = wrap64 (a + l.sum)
  | [], a => by simp
  | x :: l, a => by
    rw [List.foldl_cons, List.sum_cons, ← Int.add_assoc, ← sumW_acc l (a + x)]
    congr 1
    unfold wrap64; omega
theorem sum_rev : ∀ (l : List Int), l.reverse.sum = l.sum
  | [] => rfl
  | x :: l => by rw [List.reverse_cons, List.sum_append, sum_rev l, List.sum_cons]; simp; omega
theorem sumW_rev (l : List Int) : sumW l.reverse = sumW l := by
  have h0 : wrap64 0 = 0 := by unfold wrap64; omega
  have h1 := sumW_acc l 0
  have h2 := sumW_acc l.reverse 0
  rw [h0] at h1 h2
  unfold sumW
  rw [h1, h2, sum_rev]
end Go.Proofs.YtdmeohgojdfmoaaGreatDoor

/- Speeds keep the limits, and no single one could be greater by 1: the plain law; whether a number is in a list, by value. -/
namespace Go.Proofs.YtdmeohgojdfmoaaGreatDoor
open Go Go.RowKit
set_option maxRecDepth 100000
theorem rt_iff {a b d : Int} (hb : 0 ≤ b) (hd : 0 ≤ d) : b ≤ rt a d ↔ b * b - a * a ≤ d := by
  have ha := sq_nn a
  unfold rt
  constructor
  · intro h
    have h1 := sq_le hb h
    have h2 := rootI_le (n := a * a + d) (by omega)
    omega
  · intro h
    exact le_rootI (by omega) (by omega)
theorem kept_iff {l : List Leg} {cs q : List Int} {ch : Int} (hr : Right l cs) (hc : 1 ≤ ch) : KeptP l cs q ch ↔ Keeps l.length (capL l cs) (disL l ch) (fun i => q.getD i 0) := by
  constructor
  · rintro ⟨h1, h2⟩
    refine ⟨h1, fun i hi => ?_⟩
    have h3 := h2 i hi
    have hd := disL_nn hr hc i
    exact ⟨(rt_iff (h1 (i + 1) (by omega)).1 hd).2 (show q.getD (i + 1) 0 * q.getD (i + 1) 0 - q.getD i 0 * q.getD i 0 ≤ disL l ch i by omega), (rt_iff (h1 i (by omega)).1 hd).2 (show q.getD i 0 * q.getD i 0 - q.getD (i + 1) 0 * q.getD (i + 1) 0 ≤ disL l ch i by omega)⟩
  · rintro ⟨h1, h2⟩
    refine ⟨h1, fun i hi => ?_⟩
    have hd := disL_nn hr hc i
    have h3 := (rt_iff (h1 (i + 1) (by omega)).1 hd).1 (h2 i hi).1
    have h4 := (rt_iff (h1 i (by omega)).1 hd).1 (h2 i hi).2
    show max (q.getD i 0 * q.getD i 0 - q.getD (i + 1) 0 * q.getD (i + 1) 0) (-(q.getD i 0 * q.getD i 0 - q.getD (i + 1) 0 * q.getD (i + 1) 0)) ≤ disL l ch i
    have h3' : q.getD (i + 1) 0 * q.getD (i + 1) 0 - q.getD i 0 * q.getD i 0 ≤ disL l ch i := h3
    have h4' : q.getD i 0 * q.getD i 0 - q.getD (i + 1) 0 * q.getD (i + 1) 0 ≤ disL l ch i := h4
    omega
theorem speeds_getD {l : List Leg} {cs : List Int} {ch : Int} {i : Nat} (h : i ≤ l.length) : (speedsS l cs ch).getD i 0 = spdL l cs ch i := getD_of (speedsS_get h)
theorem kept_speeds {l : List Leg} {cs : List Int} {ch : Int} (hr : Right l cs) (hc : 1 ≤ ch) : KeptP l cs (speedsS l cs ch) ch := by
  refine (kept_iff hr hc).2 ?_
  have hb := (speedsS_best hr hc).1
  refine ⟨fun i hi => ?_, fun i hi => ?_⟩
  · show 0 ≤ (speedsS l cs ch).getD i 0 ∧ (speedsS l cs ch).getD i 0 ≤ _
    rw [speeds_getD hi]; exact hb.1 i hi
  · show (speedsS l cs ch).getD (i + 1) 0 ≤ rt ((speedsS l cs ch).getD i 0) _ ∧ (speedsS l cs ch).getD i 0 ≤ rt ((speedsS l cs ch).getD (i + 1) 0) _
    rw [speeds_getD (show i ≤ l.length by omega), speeds_getD (show i + 1 ≤ l.length by omega)]; exact hb.2 i hi
theorem kept_more {l : List Leg} {cs : List Int} {ch : Int} (hr : Right l cs) (hc : 1 ≤ ch) {i : Nat} (hi : i ≤ l.length) : ¬ KeptP l cs ((speedsS l cs ch).set i (spdL l cs ch i + 1)) ch := fun h => by
  have h1 := (speedsS_best hr hc).2 _ ((kept_iff hr hc).1 h) i hi
  have h2 : ((speedsS l cs ch).set i (spdL l cs ch i + 1)).getD i 0 = spdL l cs ch i + 1 := getD_of (by rw [List.getElem?_set_self (by rw [speedsS_len]; omega)])
  have h3 : ((speedsS l cs ch).set i (spdL l cs ch i + 1)).getD i 0 ≤ spdL l cs ch i := h1
  omega
theorem zero_getD (n i : Nat) : (List.replicate n (0 : Int)).getD i 0 = 0 := by
  rw [List.getD_eq_getElem?_getD, List.getElem?_replicate]
  split <;> rfl
theorem kept_zero {l : List Leg} {cs : List Int} {ch : Int} (hr : Right l cs) (hc : 1 ≤ ch) (n : Nat) : KeptP l cs (List.replicate n 0) ch := by
  refine ⟨fun i hi => ?_, fun i hi => ?_⟩
  · rw [zero_getD]; exact ⟨Int.le_refl _, (hr.cap i).1⟩
  · rw [zero_getD, zero_getD]; have := disL_nn hr hc i; omega
theorem mem_slow {l : List Leg} {cs : List Int} {ch : Int} {i n : Nat} (hi : i ≤ l.length) : (i : Int) ∈ slowS l cs (List.replicate n 0) ch ↔ 0 < spdL l cs ch i := by
  unfold slowS slowU
  simp only [List.mem_map, List.mem_filter, List.mem_range, zero_getD, decide_eq_true_eq]
  constructor
  · rintro ⟨j, ⟨-, h⟩, hj⟩
    obtain rfl : j = i := by omega
    exact h
  · exact fun h => ⟨i, ⟨by omega, h⟩, rfl⟩
theorem mem_dropk {l : List Int} {k : Nat} {x z : Int} (h : l[k]? = some z) : x ∈ l.drop k ↔ x = z ∨ x ∈ l.drop (k + 1) := by rw [drop_consk h, List.mem_cons]
theorem indexe_a (x : Int) (l : List Int) (v : Value) (hl : l.length ≤ 1000000000) : ACalls Tryz.prog 87 [.c (ints_r v l), .c (I x)] [] fun u H => ∃ r : Int, u = .c (I r) ∧ H = [] ∧ (0 ≤ r ↔ x ∈ l) := by
  have e1 : (l.map fun z => [I z]).length = l.length := by simp
  refine acalls_of (N := 19) Tryz.func87 rfl rfl (by simp) fun E hE => ?_
  refine WA ?_
  refine WA ?_
  refine aw_loopw (fun m F H => ∃ (k : Nat), m + k = l.length ∧ (x ∈ l.drop k ↔ x ∈ l) ∧ F = [(0, .c (ints_r v l)), (1, .c (I x)), (7, .c (I (l.map fun z => [I z]).length)), (8, .c (I k))] ∧ H = []) ?_ ?_
  · refine wk_of [] (fun _ => [(0, .c (ints_r v l)), (1, .c (I x)), (7, .c (I (l.map fun z => [I z]).length)), (8, .c (I (0 : Nat)))]) (fun _ => _) (by decide) (ZNL hE) ZCF (fun _ => .nil) (fun _ => ?_)
    exact ⟨l.length, 0, by omega, Iff.rfl, rfl, rfl⟩
  rintro m F H ⟨k, hk, hf, rfl, rfl⟩
  refine WA ?_
  refine aw_if rfl (fun hlt => ?_) (fun hge => ?_)
  · obtain ⟨z, hz⟩ : ∃ e, l[k]? = some e := ⟨_, List.getElem?_eq_getElem (by omega)⟩
    have hrow : (l.map fun z => [I z])[k]? = some [I z] := by rw [List.getElem?_map, hz]; rfl
    have hfd := mem_dropk (x := x) hz
    refine WA ?_
    refine WA ?_
    refine aw_if rfl (fun heq => ?_) (fun hne => ?_)
    · refine WA ?_
      exact aret_1 [] _ rfl rfl rfl (by decide) (ZNK rfl) (fun _ => .nil) ⟨_, rfl, rfl, ⟨fun _ => hf.1 (hfd.2 (.inl heq)), fun _ => by omega⟩⟩
    · refine ZZ ?_
      refine WA ?_
      refine wk_of [] (fun _ => [(0, .c (ints_r v l)), (1, .c (I x)), (7, .c (I (l.map fun z => [I z]).length)), (8, .c (I (k + 1 : Nat)))]) (fun _ => _) (by decide) (ZNL hE) ZCF (fun _ => .nil) (fun _ => ?_)
      exact ⟨m - 1, by omega, k + 1, by omega, ⟨fun h => hf.1 (hfd.2 (.inr h)), fun h => (hfd.1 (hf.2 h)).resolve_left hne⟩, rfl, rfl⟩
  refine WA ?_
  refine aret_1 [] _ rfl rfl rfl (by decide) (ZNK rfl) (fun _ => .nil) ⟨_, rfl, rfl, ?_⟩
  rw [← hf, List.drop_eq_nil_of_le (by omega)]; simp
theorem hasi_a (x : Int) (l : List Int) (v : Value) (hl : l.length ≤ 1000000000) : ACalls Tryz.prog 31 [.c (ints_r v l), .c (I x)] [] fun u H => u = .c (B (decide (x ∈ l))) ∧ H = [] := by
  refine acalls_of (N := 9) Tryz.func31 rfl rfl (by simp) fun E hE => ?_
  refine WA ?_
  refine WR ?_
  refine al_ef rfl (ef_call0 false (fun _ => indexe_a x l v (by omega)) rfl .fn rfl (by decide) (by kernel_rfl) rfl (fun _ => C0 rfl) (by simp)) ?_
  rintro _ _ ⟨_, _, _, ⟨r, rfl, rfl, hr⟩, hF, hH⟩
  (try simp only [nsl, Nat.reduceAdd, Nat.reduceLT, Nat.reduceSub] at hF); (try simp only [nsl, Nat.reduceAdd, Nat.reduceLT, Nat.reduceSub] at hH); subst hF; subst hH
  refine WE ?_
  refine aret_1 [] _ rfl rfl rfl (by decide) (ZNK rfl) (fun _ => .nil) ⟨congrArg (fun z => AV.c (B z)) ?_, rfl⟩
  by_cases h : x ∈ l
  · rw [decide_eq_true h, decide_eq_true (hr.2 h)]
  · rw [decide_eq_false h, decide_eq_false (fun h' => h (hr.1 h'))]
theorem givenF_zero {l : List Leg} {cs q : List Int} {ch : Int} (h0 : faultL l cs ch = 0) (hq : q.length = l.length + 1) : givenF l cs q ch = 0 := by
  unfold givenF
  rw [if_neg (by omega), if_neg (by omega)]
end Go.Proofs.YtdmeohgojdfmoaaGreatDoor

/- Plain law: with more change, greater corners or limits no speed is less; a leg that is split makes no other speed greater. -/
namespace Go.Proofs.YtdmeohgojdfmoaaGreatDoor
open Go Go.RowKit
theorem rt_monod {v d d' : Int} (hd : 0 ≤ d) (h : d ≤ d') : rt v d ≤ rt v d' := by
  have := sq_nn v
  exact rootI_mono (by omega) (by omega)
theorem best_mono {n : Nat} {cap d cap' d' v v' : Nat → Int} (h : Best n cap d v) (h' : Best n cap' d' v') (hc : ∀ i, i ≤ n → cap i ≤ cap' i) (hd0 : ∀ i, 0 ≤ d i) (hd : ∀ i, i < n → d i ≤ d' i) : ∀ i, i ≤ n → v i ≤ v' i := by
  refine h'.2 v ⟨fun i hi => ?_, fun i hi => ?_⟩
  · have := h.1.1 i hi
    have := hc i hi
    omega
  · have h1 := h.1.2 i hi
    have h2 := rt_monod (v := v i) (hd0 i) (hd i hi)
    have h3 := rt_monod (v := v (i + 1)) (hd0 i) (hd i hi)
    omega
theorem speeds_more {l l' : List Leg} {cs cs' : List Int} {ch ch' : Int} (hr : Right l cs) (hr' : Right l' cs') (hc : 1 ≤ ch) (hcc : ch ≤ ch') (hl : l'.length = l.length) (hlg : ∀ j, j < l.length → (l'.getD j ⟨0, 0⟩).long = (l.getD j ⟨0, 0⟩).long ∧ (l.getD j ⟨0, 0⟩).limit ≤ (l'.getD j ⟨0, 0⟩).limit)
    (hcn : ∀ j, j < cs.length → cs.getD j 0 ≤ cs'.getD j 0) : ∀ i, i ≤ l.length → spdL l cs ch i ≤ spdL l' cs' ch' i := by
  have h1 := speedsS_best hr hc
  have h2 := speedsS_best hr' (ch := ch') (by omega)
  have hn := hr.len
  have hq := best_mono h1 (n := l.length) (cap' := capL l' cs') (d' := disL l' ch') (v' := spd l'.length (capL l' cs') (disL l' ch')) (by rw [← hl]; exact h2) (fun i hi => ?_) (disL_nn hr hc) (fun i hi => ?_)
  · exact hq
  · unfold capL
    rw [hl]
    by_cases h0 : i = 0 ∨ l.length ≤ i
    · rw [if_pos h0, if_pos h0]; exact Int.le_refl _
    · rw [if_neg h0, if_neg h0]
      have g1 := (hlg (i - 1) (by omega)).2
      have g2 := (hlg i (by omega)).2
      have g3 := hcn (i - 1) (by omega)
      omega
  · unfold disL
    rw [(hlg i hi).1]
    exact Int.mul_le_mul_of_nonneg_right (by omega) (by have := (hr.leg hi).1; omega)
theorem getD_setk {α : Type} {l : List α} {i j : Nat} {a z : α} (h : i < l.length) : (l.set i a).getD j z = if i = j then a else l.getD j z := by
  rw [List.getD_eq_getElem?_getD, List.getD_eq_getElem?_getD]
  by_cases e : i = j
  · subst e
    rw [if_pos rfl, List.getElem?_set_self h]; rfl
  · rw [if_neg e, List.getElem?_set_ne e]
theorem right_setL {l : List Leg} {cs : List Int} (hr : Right l cs) {i : Nat} {x : Leg} {m : Int} (hx : l[i]? = some x) (hm : x.limit ≤ m ∧ m ≤ 100000) : Right (l.set i ⟨x.long, m⟩) cs := by
  obtain ⟨g1, g2, g3, g4⟩ := hr.legs x (List.mem_of_getElem? hx)
  refine ⟨by simpa using hr.ne, by simpa using hr.le, fun y hy => ?_, by simpa using hr.len, hr.cor⟩
  rcases List.mem_or_eq_of_mem_set hy with h | rfl
  · exact hr.legs y h
  · exact ⟨g1, g2, show 1 ≤ m by omega, hm.2⟩
theorem right_setC {l : List Leg} {cs : List Int} (hr : Right l cs) {k : Nat} {c : Int} (hc : 0 ≤ c ∧ c ≤ 100000) : Right l (cs.set k c) := by
  refine ⟨hr.ne, hr.le, hr.legs, by simpa using hr.len, fun y hy => ?_⟩
  rcases List.mem_or_eq_of_mem_set hy with h | rfl
  · exact hr.cor y h
  · exact hc
theorem legs_setL {l : List Leg} {i : Nat} {x : Leg} {m : Int} (hx : l[i]? = some x) (hm : x.limit ≤ m) (j : Nat) : ((l.set i (⟨x.long, m⟩ : Leg)).getD j ⟨0, 0⟩).long = (l.getD j ⟨0, 0⟩).long ∧ (l.getD j ⟨0, 0⟩).limit ≤ ((l.set i (⟨x.long, m⟩ : Leg)).getD j ⟨0, 0⟩).limit := by
  rw [getD_setk (List.getElem?_eq_some_iff.1 hx).1]
  split
  · rename_i e; subst e
    rw [getD_of hx]; exact ⟨rfl, hm⟩
  · exact ⟨rfl, Int.le_refl _⟩
theorem cors_setC {cs : List Int} {k : Nat} {c c' : Int} (hx : cs[k]? = some c) (hm : c ≤ c') (j : Nat) : cs.getD j 0 ≤ (cs.set k c').getD j 0 := by
  rw [getD_setk (List.getElem?_eq_some_iff.1 hx).1]
  split
  · rename_i e; subst e
    rw [getD_of hx]; exact hm
  · exact Int.le_refl _
/- ## A leg that is split -/
section
variable {l : List Leg} {cs : List Int} {ch : Int} {i : Nat} {x : Leg} {a : Int}
theorem splL_len (hi : i < l.length) : (splL l i x a).length = l.length + 1 := by simp [splL]; omega
theorem splC_len (hi : i ≤ cs.length) : (splC cs i x).length = cs.length + 1 := by simp [splC]; omega
theorem splL_get (hi : i < l.length) (j : Nat) : (splL l i x a).getD j ⟨0, 0⟩ = if j < i then l.getD j ⟨0, 0⟩ else if j = i then ⟨a, x.limit⟩ else if j = i + 1 then ⟨x.long - a, x.limit⟩ else l.getD (j - 1) ⟨0, 0⟩ := by
  have ht : (l.take i).length = i := by simp; omega
  unfold splL
  simp only [List.getD_eq_getElem?_getD]
  by_cases h1 : j < i
  · rw [if_pos h1, List.getElem?_append_left (by omega), List.getElem?_take, if_pos h1]
  · rw [if_neg h1, List.getElem?_append_right (by omega), ht]
    by_cases h2 : j = i
    · subst h2; rw [if_pos rfl, Nat.sub_self]; rfl
    · rw [if_neg h2]
      by_cases h3 : j = i + 1
      · subst h3; rw [if_pos rfl, show i + 1 - i = 1 from by omega]; rfl
      · rw [if_neg h3, show j - i = (j - i - 2) + 1 + 1 from by omega, List.getElem?_cons_succ, List.getElem?_cons_succ, List.getElem?_drop, show i + 1 + (j - i - 2) = j - 1 from by omega]
theorem splC_get (hi : i ≤ cs.length) (j : Nat) : (splC cs i x).getD j 0 = if j < i then cs.getD j 0 else if j = i then x.limit else cs.getD (j - 1) 0 := by
  have ht : (cs.take i).length = i := by simp; omega
  unfold splC
  simp only [List.getD_eq_getElem?_getD]
  by_cases h1 : j < i
  · rw [if_pos h1, List.getElem?_append_left (by omega), List.getElem?_take, if_pos h1]
  · rw [if_neg h1, List.getElem?_append_right (by omega), ht]
    by_cases h2 : j = i
    · subst h2; rw [if_pos rfl, Nat.sub_self]; rfl
    · rw [if_neg h2, show j - i = (j - i - 1) + 1 from by omega, List.getElem?_cons_succ, List.getElem?_drop, show i + (j - i - 1) = j - 1 from by omega]
theorem right_split (hr : Right l cs) (hx : l[i]? = some x) (ha : 1 ≤ a ∧ a < x.long) (hl : l.length < 2000) : Right (splL l i x a) (splC cs i x) := by
  have hi : i < l.length := (List.getElem?_eq_some_iff.1 hx).1
  have hn := hr.len
  obtain ⟨g1, g2, g3, g4⟩ := hr.legs x (List.mem_of_getElem? hx)
  refine ⟨by rw [splL_len hi]; omega, by rw [splL_len hi]; omega, fun y hy => ?_, by rw [splL_len hi, splC_len (by omega)]; omega, fun z hz => ?_⟩
  · unfold splL at hy
    rcases List.mem_append.1 hy with h | h
    · exact hr.legs y (List.mem_of_mem_take h)
    · rcases List.mem_cons.1 h with rfl | h
      · exact ⟨ha.1, show a ≤ 200000 by omega, g3, g4⟩
      · rcases List.mem_cons.1 h with rfl | h
        · exact ⟨show 1 ≤ x.long - a by omega, show x.long - a ≤ 200000 by omega, g3, g4⟩
        · exact hr.legs y (List.mem_of_mem_drop h)
  · unfold splC at hz
    rcases List.mem_append.1 hz with h | h
    · exact hr.cor z (List.mem_of_mem_take h)
    · rcases List.mem_cons.1 h with rfl | h
      · omega
      · exact hr.cor z (List.mem_of_mem_drop h)
theorem spl_limit (hx : l[i]? = some x) (j : Nat) : ((splL l i x a).getD j ⟨0, 0⟩).limit = (l.getD (if j ≤ i then j else j - 1) ⟨0, 0⟩).limit := by
  have hi : i < l.length := (List.getElem?_eq_some_iff.1 hx).1
  rw [splL_get hi]
  by_cases h1 : j < i
  · rw [if_pos h1, if_pos (by omega)]
  · rw [if_neg h1]
    by_cases h2 : j = i
    · subst h2; rw [if_pos rfl, if_pos (Nat.le_refl _), getD_of hx]
    · rw [if_neg h2]
      by_cases h3 : j = i + 1
      · subst h3; rw [if_pos rfl, if_neg (by omega), Nat.add_sub_cancel, getD_of hx]
      · rw [if_neg h3, if_neg (by omega)]
theorem capL_split_lo (hr : Right l cs) (hx : l[i]? = some x) {j : Nat} (hj : j ≤ i) : capL (splL l i x a) (splC cs i x) j = capL l cs j := by
  have hi : i < l.length := (List.getElem?_eq_some_iff.1 hx).1
  have hn := hr.len
  unfold capL
  rw [splL_len hi]
  by_cases h0 : j = 0
  · rw [if_pos (.inl h0), if_pos (.inl h0)]
  · rw [if_neg (by omega), if_neg (by omega), spl_limit hx, spl_limit hx, if_pos (by omega), if_pos hj, splC_get (by omega), if_pos (by omega)]
theorem capL_split_hi (hr : Right l cs) (hx : l[i]? = some x) {j : Nat} (hj : i < j) : capL (splL l i x a) (splC cs i x) (j + 1) = capL l cs j := by
  have hi : i < l.length := (List.getElem?_eq_some_iff.1 hx).1
  have hn := hr.len
  unfold capL
  rw [splL_len hi]
  by_cases h0 : l.length ≤ j
  · rw [if_pos (.inr (by omega)), if_pos (.inr h0)]
  · rw [if_neg (by omega), if_neg (by omega), spl_limit hx, spl_limit hx, if_neg (by omega), if_neg (by omega), splC_get (by omega), if_neg (by omega), if_neg (by omega), Nat.add_sub_cancel]
theorem disL_split_lo (hx : l[i]? = some x) {j : Nat} (hj : j < i) : disL (splL l i x a) ch j = disL l ch j := by
  unfold disL; rw [splL_get (List.getElem?_eq_some_iff.1 hx).1, if_pos hj]
theorem disL_split_hi (hx : l[i]? = some x) {j : Nat} (hj : i < j) : disL (splL l i x a) ch (j + 1) = disL l ch j := by
  unfold disL; rw [splL_get (List.getElem?_eq_some_iff.1 hx).1, if_neg (by omega), if_neg (by omega), if_neg (by omega), Nat.add_sub_cancel]
theorem disL_split_1 (hx : l[i]? = some x) : disL (splL l i x a) ch i = 2 * ch * a := by
  unfold disL; rw [splL_get (List.getElem?_eq_some_iff.1 hx).1, if_neg (by omega), if_pos rfl]
theorem disL_split_2 (hx : l[i]? = some x) : disL (splL l i x a) ch (i + 1) = 2 * ch * (x.long - a) := by
  unfold disL; rw [splL_get (List.getElem?_eq_some_iff.1 hx).1, if_neg (by omega), if_neg (by omega), if_pos rfl]
/-- The speeds without that at the place of the split. -/
def restF (u : Nat → Int) (i k : Nat) : Int := if k ≤ i then u k else u (k + 1)
theorem keeps_rest (hr : Right l cs) (hc : 1 ≤ ch) (hx : l[i]? = some x) (ha : 1 ≤ a ∧ a < x.long) {u : Nat → Int} (hu : Keeps (splL l i x a).length (capL (splL l i x a) (splC cs i x)) (disL (splL l i x a) ch) u) : Keeps l.length (capL l cs) (disL l ch) (restF u i) := by
  have hi : i < l.length := (List.getElem?_eq_some_iff.1 hx).1
  rw [splL_len hi] at hu
  obtain ⟨h1, h2⟩ := hu
  refine ⟨fun k hk => ?_, fun k hk => ?_⟩
  · unfold restF
    by_cases hki : k ≤ i
    · rw [if_pos hki, ← capL_split_lo (a := a) hr hx hki]; exact h1 k (by omega)
    · rw [if_neg hki, ← capL_split_hi (a := a) hr hx (by omega)]; exact h1 (k + 1) (by omega)
  · unfold restF
    by_cases hki : k < i
    · rw [if_pos (by omega), if_pos (by omega), ← disL_split_lo (a := a) (ch := ch) hx hki]; exact h2 k (by omega)
    · by_cases hke : i < k
      · rw [if_neg (by omega), if_neg (by omega), ← disL_split_hi (a := a) (ch := ch) hx hke]; exact h2 (k + 1) (by omega)
      · obtain rfl : k = i := by omega
        rw [if_neg (by omega), if_pos (Nat.le_refl _)]
        have q1 := h2 k (by omega)
        have q2 := h2 (k + 1) (by omega)
        rw [disL_split_1 hx] at q1
        rw [disL_split_2 hx] at q2
        have n0 := (h1 k (by omega)).1
        have n1 := (h1 (k + 1) (by omega)).1
        have n2 := (h1 (k + 1 + 1) (by omega)).1
        have d1 : 0 ≤ 2 * ch * a := Int.mul_nonneg (by omega) (by omega)
        have d2 : 0 ≤ 2 * ch * (x.long - a) := Int.mul_nonneg (by omega) (by omega)
        have e : disL l ch k = 2 * ch * a + 2 * ch * (x.long - a) := by
          rw [disL_of hx, ← Int.mul_add]; congr 1; omega
        have a1 := (rt_iff n1 d1).1 q1.1
        have a2 := (rt_iff n0 d1).1 q1.2
        have a3 := (rt_iff n2 d2).1 q2.1
        have a4 := (rt_iff n1 d2).1 q2.2
        rw [e]
        exact ⟨(rt_iff n2 (by omega)).2 (by omega), (rt_iff n0 (by omega)).2 (by omega)⟩
theorem rest_le (hr : Right l cs) (hc : 1 ≤ ch) (hx : l[i]? = some x) (ha : 1 ≤ a ∧ a < x.long) (hl : l.length < 2000) {k : Nat} (hk : k ≤ l.length) :
    ∃ w, ((speedsS (splL l i x a) (splC cs i x) ch).take (i + 1) ++ (speedsS (splL l i x a) (splC cs i x) ch).drop (i + 1 + 1))[k]? = some w ∧ w ≤ spdL l cs ch k := by
  have hi : i < l.length := (List.getElem?_eq_some_iff.1 hx).1
  have hn := splL_len (x := x) (a := a) hi
  have hb := (speedsS_best (right_split hr hx ha hl) hc).1
  have hle := (speedsS_best hr hc).2 _ (keeps_rest hr hc hx ha hb) k hk
  refine ⟨_, ?_, hle⟩
  have ht : ((speedsS (splL l i x a) (splC cs i x) ch).take (i + 1)).length = i + 1 := by simp [speedsS_len, hn]; omega
  unfold restF
  by_cases hki : k ≤ i
  · rw [if_pos hki, List.getElem?_append_left (by omega), List.getElem?_take, if_pos (by omega)]
    exact speedsS_get (by omega)
  · rw [if_neg hki, List.getElem?_append_right (by omega), ht, List.getElem?_drop, show i + 1 + 1 + (k - (i + 1)) = k + 1 from by omega]
    exact speedsS_get (by omega)
end
end Go.Proofs.YtdmeohgojdfmoaaGreatDoor

/- slices.Delete of numbers, by value. -/
namespace Go.Proofs.YtdmeohgojdfmoaaGreatDoor
open Go Go.RowKit
set_option maxRecDepth 100000
theorem deleteI_a (l : List Int) (i c : Nat) (hi : i < l.length) (hl : l.length ≤ 1000000) (hc : l.length ≤ c) : ACalls Tryz.prog 43 [.o 0 0 l.length c, .c (I i), .c (I (i + 1))] [.arr 3 1 c (l.map (fun z => [I z]))] fun u H => ∃ l' : List Int, l' = l.take i ++ l.drop (i + 1) ∧ u = .o 0 0 l'.length c ∧ H = [.arr 3 1 c (l'.map (fun z => [I z]))] := by
  refine acallsx_of false (N := 33) Tryz.func43 rfl rfl (by simp) fun E hE hP => ?_
  refine WA ?_
  refine ZR ?_
  iterate 5 refine WX1 ?_
  refine ZA (rd_slice3 (l := i) (h := i + 1) (mx := l.length) rfl (KE (t := 22) rfl) rfl rfl rfl rfl rfl (by omega) rfl rfl (by omega) (by omega) (by omega) (by omega)) ?_
  refine WE ?_
  refine WA ?_
  refine aw_cond_f rfl ?_
  refine ZZ ?_
  refine WA ?_
  refine aw_wk (wk_of (K := fun F H => F = [(0, .o 0 0 l.length c), (1, .c (I i)), (2, .c (I (i + 1))), (7, .c (I l.length))] ∧ H = [.arr 3 1 c (l.map (fun z => [I z]))]) [some 0] (fun _ => [(0, .o 0 0 l.length c), (1, .c (I i)), (2, .c (I (i + 1))), (7, .c (I l.length))]) (fun _ => _) (by decide) (ZNL hE) ZCF ZCH (fun _ => ⟨rfl, rfl⟩)) ?_
  rintro F H ⟨rfl, rfl⟩
  have hrows : (l.map (fun z => [I z])).take i ++ (l.drop (i + 1)).map (fun z => [I z]) = (l.take i ++ l.drop (i + 1)).map (fun z => [I z]) := by
    rw [List.map_append, List.map_take]
  have hlen : (l.take i ++ l.drop (i + 1)).length = i + (l.length - (i + 1)) := by simp; omega
  refine aw_cut (fun F H => ∃ l' : List Int, l' = l.take i ++ l.drop (i + 1) ∧ F = [(0, .o 0 0 l'.length c), (7, .c (I l.length))] ∧ H = [.arr 3 1 c (l'.map (fun z => [I z]))]) ?_ ?_ wk_aw
  · rcases Nat.lt_or_ge (i + 1) c with hic | hic
    · refine ZZ ?_
      refine aw_regionT [(0, none), (1, none), (2, none), (3, none), (4, none), (5, none), (6, some []), (7, none)] hMixed (by kernel_rfl) ?_
      iterate 2 refine WX2 ?_
      refine ZT rfl (rd_slice (l := 0) (h := i) rfl (KE (t := 22) rfl) rfl rfl (.inl ⟨rfl, rfl⟩) (.inr ⟨_, _, _, rfl, rfl, rfl⟩) (by omega) (by omega) (by omega)) ?_
      iterate 2 refine WX2 ?_
      refine ZT rfl (rd_slice (l := i + 1) (h := l.length) rfl (KE (t := 22) rfl) rfl rfl (.inr ⟨_, _, _, rfl, rfl, rfl⟩) (.inl ⟨rfl, rfl⟩) (by omega) (by omega) (by omega)) ?_
      refine at_ef rfl rfl (ef_appc (b := 0) (n := i) (cap := c) (news := (l.drop (i + 1)).map (fun z => [I z])) rfl rfl (by decide) (KA (t := 22) rfl) rfl rfl (by simp; omega) rfl (Src.own rfl (by rw [Nat.zero_add, ← List.map_drop, List.take_of_length_le (by simp)]) (by (try simp) <;> omega)) (by simp; omega)) ?_
      rintro F1 H1 ⟨_, c2, hc2, hcf, hF, hH⟩
      obtain rfl : c2 = c := hcf (by simp; omega)
      (try simp only [List.set_cons_zero, List.set_cons_succ, updH, posOf, lentArr, killF, killO, killV, AV.has, AV.hasL, AV.emb, AV.embL, OB.emb, embB, List.filter_cons, List.filter_nil, List.getElem?_cons_zero, List.getElem?_cons_succ, List.getD_cons_zero, List.getD_cons_succ, List.drop_succ_cons, List.drop_zero, List.drop_nil, List.contains_cons, List.contains_nil, Nat.reduceBEq, Nat.reduceEqDiff, beq_self_eq_true, Bool.or_false, Bool.false_or, Bool.or_true, Bool.true_or, Bool.false_eq_true, Option.map_some, Option.map_none, List.map_cons, List.map_nil, List.cons_append, List.nil_append, List.append_nil, List.length_cons, List.length_nil, Nat.reduceAdd, Nat.reduceLT, Nat.reduceSub, if_true, if_false, Nat.zero_add, Nat.add_zero, Nat.sub_zero, Nat.lt_irrefl, Nat.not_lt_zero, Nat.zero_lt_one, Nat.lt_add_one] at hF); (try simp only [List.set_cons_zero, List.set_cons_succ, updH, posOf, lentArr, killF, killO, killV, AV.has, AV.hasL, AV.emb, AV.embL, OB.emb, embB, List.filter_cons, List.filter_nil, List.getElem?_cons_zero, List.getElem?_cons_succ, List.getD_cons_zero, List.getD_cons_succ, List.drop_succ_cons, List.drop_zero, List.drop_nil, List.contains_cons, List.contains_nil, Nat.reduceBEq, Nat.reduceEqDiff, beq_self_eq_true, Bool.or_false, Bool.false_or, Bool.or_true, Bool.true_or, Bool.false_eq_true, Option.map_some, Option.map_none, List.map_cons, List.map_nil, List.cons_append, List.nil_append, List.append_nil, List.length_cons, List.length_nil, Nat.reduceAdd, Nat.reduceLT, Nat.reduceSub, if_true, if_false, Nat.zero_add, Nat.add_zero, Nat.sub_zero, Nat.lt_irrefl, Nat.not_lt_zero, Nat.zero_lt_one, Nat.lt_add_one] at hH); subst hF; subst hH
      refine ⟨ag_none, ?_⟩
      refine WQ ?_
      refine wk_of [some 0] (fun _ => [(0, .o 0 0 (l.take i ++ l.drop (i + 1)).length _), (7, .c (I l.length))]) (fun _ => [.arr 3 1 _ ((l.take i ++ l.drop (i + 1)).map (fun z => [I z]))]) (by decide) (ZNL hE) (fun _g => .cons rfl (.o rfl (by rw [hlen]; simp)) (.cons rfl (.c rfl) .nil)) (fun _g => .arr rfl hrows .nil) (fun _ => ⟨_, rfl, rfl, rfl⟩)
    · obtain rfl : c = i + 1 := by omega
      have hdn : l.drop (i + 1) = [] := List.drop_eq_nil_of_le (by omega)
      refine ZZ ?_
      refine aw_regionT [(0, none), (1, none), (2, none), (3, none), (4, none), (5, none), (6, some []), (7, none)] hMixed (by kernel_rfl) ?_
      iterate 2 refine WX2 ?_
      refine ZT rfl (rd_slice (l := 0) (h := i) rfl (KE (t := 22) rfl) rfl rfl (.inl ⟨rfl, rfl⟩) (.inr ⟨_, _, _, rfl, rfl, rfl⟩) (by omega) (by omega) (by omega)) ?_
      iterate 2 refine WX2 ?_
      refine ZT rfl (rd_slicee (l := i + 1) (h := l.length) rfl (KE (t := 22) rfl) rfl rfl (.inr ⟨_, _, _, rfl, rfl, rfl⟩) (.inl ⟨rfl, rfl⟩) (by omega) rfl) ?_
      refine at_ef rfl rfl (ef_appc (b := 0) (n := i) (cap := i + 1) (news := (l.drop (i + 1)).map (fun z => [I z])) rfl rfl (by decide) (KA (t := 22) rfl) rfl rfl (by simp; omega) rfl (Src.own rfl (by rw [hdn]; simp) (by (try simp) <;> omega)) (by simp; omega)) ?_
      rintro F1 H1 ⟨_, c2, hc2, hcf, hF, hH⟩
      obtain rfl : c2 = i + 1 := hcf (by simp; omega)
      (try simp only [List.set_cons_zero, List.set_cons_succ, updH, posOf, lentArr, killF, killO, killV, AV.has, AV.hasL, AV.emb, AV.embL, OB.emb, embB, List.filter_cons, List.filter_nil, List.getElem?_cons_zero, List.getElem?_cons_succ, List.getD_cons_zero, List.getD_cons_succ, List.drop_succ_cons, List.drop_zero, List.drop_nil, List.contains_cons, List.contains_nil, Nat.reduceBEq, Nat.reduceEqDiff, beq_self_eq_true, Bool.or_false, Bool.false_or, Bool.or_true, Bool.true_or, Bool.false_eq_true, Option.map_some, Option.map_none, List.map_cons, List.map_nil, List.cons_append, List.nil_append, List.append_nil, List.length_cons, List.length_nil, Nat.reduceAdd, Nat.reduceLT, Nat.reduceSub, if_true, if_false, Nat.zero_add, Nat.add_zero, Nat.sub_zero, Nat.lt_irrefl, Nat.not_lt_zero, Nat.zero_lt_one, Nat.lt_add_one] at hF); (try simp only [List.set_cons_zero, List.set_cons_succ, updH, posOf, lentArr, killF, killO, killV, AV.has, AV.hasL, AV.emb, AV.embL, OB.emb, embB, List.filter_cons, List.filter_nil, List.getElem?_cons_zero, List.getElem?_cons_succ, List.getD_cons_zero, List.getD_cons_succ, List.drop_succ_cons, List.drop_zero, List.drop_nil, List.contains_cons, List.contains_nil, Nat.reduceBEq, Nat.reduceEqDiff, beq_self_eq_true, Bool.or_false, Bool.false_or, Bool.or_true, Bool.true_or, Bool.false_eq_true, Option.map_some, Option.map_none, List.map_cons, List.map_nil, List.cons_append, List.nil_append, List.append_nil, List.length_cons, List.length_nil, Nat.reduceAdd, Nat.reduceLT, Nat.reduceSub, if_true, if_false, Nat.zero_add, Nat.add_zero, Nat.sub_zero, Nat.lt_irrefl, Nat.not_lt_zero, Nat.zero_lt_one, Nat.lt_add_one] at hH); subst hF; subst hH
      refine ⟨ag_none, ?_⟩
      refine WQ ?_
      refine wk_of [some 0] (fun _ => [(0, .o 0 0 (l.take i ++ l.drop (i + 1)).length _), (7, .c (I l.length))]) (fun _ => [.arr 3 1 _ ((l.take i ++ l.drop (i + 1)).map (fun z => [I z]))]) (by decide) (ZNL hE) (fun _g => .cons rfl (.o rfl (by rw [hlen]; simp)) (.cons rfl (.c rfl) .nil)) (fun _g => .arr rfl hrows .nil) (fun _ => ⟨_, rfl, rfl, rfl⟩)
  rintro F H ⟨l', hl', rfl, rfl⟩
  have hll : l'.length + 1 = l.length := by rw [hl', hlen]; omega
  refine ZR ?_
  iterate 4 refine WX1 ?_
  refine ZA (rd_slicex (l := l'.length) (h := l.length) rfl (KE (t := 22) rfl) rfl rfl (.inr ⟨_, _, _, rfl, rfl, rfl⟩) (.inr ⟨_, _, _, rfl, rfl, rfl⟩) (by omega) (by omega) (by omega)) ?_
  refine al_ef rfl (ef_clear rfl rfl (KE (t := 22) rfl) (KZ (t := 3) rfl) rfl rfl rfl rfl (by simp)) ?_
  rintro _ _ ⟨rfl, rfl⟩
  refine WE ?_
  refine WA ?_
  exact aret_o [some 0] (fun _ => [.arr 3 1 c (l'.map (fun z => [I z]))]) rfl rfl rfl rfl rfl (by decide) (ZNK rfl) ZCH (fun _ => ⟨l', hl', rfl, rfl⟩)
end Go.Proofs.YtdmeohgojdfmoaaGreatDoor

/- The law MoreIsFaster, walked. -/
namespace Go.Proofs.YtdmeohgojdfmoaaGreatDoor
open Go Go.RowKit
set_option maxRecDepth 100000
-- NEWM
theorem faultL_chg {l : List Leg} {cs : List Int} {ch : Int} (h : 1 ≤ ch ∧ ch ≤ 10000000) : cornersF l cs = faultL l cs ch := by
  unfold faultL changeF
  rw [if_pos h]
  split <;> omega
theorem split_ok {l : List Leg} {cs : List Int} {i : Nat} {x : Leg} {a : Int} (hc : cornersF l cs = 0) (hx : l[i]? = some x) (ha : 1 ≤ a ∧ a < x.long) (hl : l.length < 2000) : splV l cs i a = 0 := by
  have hi : i < l.length := (List.getElem?_eq_some_iff.1 hx).1
  unfold splV splF
  rw [if_neg (by omega), if_neg (by omega)]
  simp only [Int.toNat_natCast, hx]
  rw [if_neg (by omega), if_neg (by omega)]
theorem split_is {l : List Leg} {cs : List Int} {i : Nat} {x : Leg} {a : Int} (hx : l[i]? = some x) : splR l cs i a = (splL l i x a, splC cs i x) := by
  unfold splR; simp only [Int.toNat_natCast, hx]
set_option maxHeartbeats 4000000 in
theorem law_more (v : Value) (zs : List Int) (hs : StrOk zs) : ACalls Tryz.prog 7 [.c (.r v (zs.map fun z => [I z]))] [] fun u H => u = .c (B true) := by
  refine acalls_of (N := 191) Tryz.func7 rfl rfl (by simp) fun E hE => ?_
  refine WA ?_
  refine WA ?_
  refine WR ?_
  refine al_ef rfl (ef_callm false (fun _ => leglist_a 7 v zs _ hs (by omega) (by omega) (by omega) (by omega)) rfl .fn rfl (by decide) (by kernel_rfl) rfl rfl (fun _g => .cons (.p rfl) (.cons (.c rfl) .nil)) (fun _g => .cons (.c rfl) (.cons (.c rfl) .nil)) (by simp)) ?_
  rintro F1 H1 ⟨_, _, _, _, ⟨vl, l, al, rfl, hq, hl1, hl2, hl3⟩, hF, hH⟩
  injection hq with hq1 hq2; subst hq1; subst hq2
  (try simp only [nsl, Nat.reduceAdd, Nat.reduceLT, Nat.reduceSub] at hF); (try simp only [nsl, Nat.reduceAdd, Nat.reduceLT, Nat.reduceSub] at hH); subst hF; subst hH
  have e1 : (l.map Leg.row).length = l.length := by simp
  refine WE ?_
  refine WR ?_
  refine al_ef rfl (ef_callm false (fun _ => cornerlist_a (l.map Leg.row).length v zs _ hs (by omega) (by omega) (by omega) (by omega)) rfl .fn rfl (by decide) (by kernel_rfl) rfl rfl (fun _g => .cons (.p rfl) (.cons (.c rfl) .nil)) (fun _g => .cons (.c rfl) (.cons (.c rfl) .nil)) (by simp)) ?_
  rintro F1 H1 ⟨_, _, _, _, ⟨vc, cs, ac, rfl, hq, hc1, hc2, hc3⟩, hF, hH⟩
  injection hq with hq1 hq2; subst hq1; subst hq2
  (try simp only [nsl, Nat.reduceAdd, Nat.reduceLT, Nat.reduceSub] at hF); (try simp only [nsl, Nat.reduceAdd, Nat.reduceLT, Nat.reduceSub] at hH); subst hF; subst hH
  refine WO ?_
  refine al_ef rfl (ef_callm true (fun _ => pick_a [1, 10, 50, 500] _ _ _ _ hs (by omega) (by omega) (by simp) (by simp)) rfl .fn rfl (by decide) (by kernel_rfl) rfl rfl (fun _g => .cons (.p rfl) (.cons (.frz rfl rfl rfl rfl rfl) .nil)) (fun _g => .cons (.c rfl) (.cons (.c rfl) .nil)) (fun _ _ _ _ ⟨_, hu, hH, _⟩ => by rw [hu, hH]; exact ⟨.c (.inl trivial), strm_flat (.inr ⟨0, _, rfl, by simp⟩)⟩)) ?_
  rintro F1 H1 ⟨_, _, _, _, ⟨ch, rfl, hq, hrmch⟩, hF, hH⟩
  injection hq with hq1 hq2; subst hq1; subst hq2
  (try simp only [nsl, Nat.reduceAdd, Nat.reduceLT, Nat.reduceSub] at hF); (try simp only [nsl, Nat.reduceAdd, Nat.reduceLT, Nat.reduceSub] at hH); subst hF; subst hH
  refine WE ?_
  have hch : 1 ≤ ch ∧ ch ≤ 500 := by simp only [List.mem_cons, List.not_mem_nil, or_false] at hrmch; omega
  obtain ⟨Pa, hPa⟩ : ∃ W, W = (if faultL l cs ch = 0 then speedsS l cs ch else []) := ⟨_, rfl⟩
  obtain ⟨p1, hp1⟩ : ∃ p, p = faultL l cs ch := ⟨_, rfl⟩
  have hpc : cornersF l cs = p1 := by rw [hp1]; exact faultL_chg (by omega)
  refine WR ?_
  refine al_ef rfl (ef_call0 false (fun _ => speedsx_a l cs ch vl vc (by omega) (by omega)) rfl .fn rfl (by decide) (by kernel_rfl) rfl (fun _ => C0 rfl) (by simp)) ?_
  rintro _ _ ⟨_, _, _, ⟨va, rfl, rfl⟩, hF, hH⟩
  rw [← hPa, ← hp1] at hF
  (try simp only [nsl, Nat.reduceAdd, Nat.reduceLT, Nat.reduceSub] at hF); (try simp only [nsl, Nat.reduceAdd, Nat.reduceLT, Nat.reduceSub] at hH); subst hF; subst hH
  refine WE ?_
  refine WA ?_
  refine aw_if rfl (fun hne => ?_) (fun h0 => ?_)
  · refine WR ?_
    refine al_ef rfl (ef_call0 false (fun _ => corners2_a l cs vl vc (by omega) (by omega)) rfl .fn rfl (by decide) (by kernel_rfl) rfl (fun _ => C0 rfl) (by simp)) ?_
    rintro _ _ ⟨_, _, _, ⟨rfl, rfl⟩, hF, hH⟩
    rw [hpc] at hF
    (try simp only [nsl, Nat.reduceAdd, Nat.reduceLT, Nat.reduceSub] at hF); (try simp only [nsl, Nat.reduceAdd, Nat.reduceLT, Nat.reduceSub] at hH); subst hF; subst hH
    refine WO ?_
    first | refine ZS ?_ | (refine G1 rfl ?_; refine al_ef rfl (ef_call0 false (fun _ => ready_a) rfl .fn rfl (by decide) (by kernel_rfl) rfl (fun _ => C0 rfl) (by simp)) ?_; rintro _ _ ⟨_, _, _, ⟨rfl, rfl⟩, hF, hH⟩; (try simp only [nsl, Nat.reduceAdd, Nat.reduceLT, Nat.reduceSub] at hF); (try simp only [nsl, Nat.reduceAdd, Nat.reduceLT, Nat.reduceSub] at hH); subst hF; subst hH) | skip
    refine WE ?_
    exact aret_1 [] _ rfl rfl rfl (by decide) (ZNK rfl) (fun _ => .nil) rfl
  have hf0 : faultL l cs ch = 0 := by omega
  have hcf : cornersF l cs = 0 := by omega
  obtain ⟨hr, -⟩ := faultL_ok hf0
  rw [if_pos hf0] at hPa
  have hPl : Pa.length = l.length + 1 := by rw [hPa, speedsS_len]
  have n1 := hr.ne
  have n3 := hr.len
  have e1 : (l.map Leg.row).length = l.length := by simp
  have e2 : (cs.map fun z => [I z]).length = cs.length := by simp
  have e3 : (Pa.map fun z => [I z]).length = l.length + 1 := by simp [hPl]
  clear hrmch hpc
  refine ZZ ?_
  refine aw_wk (wk_of (K := fun F H => ∃ a2 : Int, 0 ≤ a2 ∧ a2 ≤ 200 ∧ F = [(3, .p 0 0 0), (4, .c (legs_r vl l)), (5, .c (ints_r vc cs)), (6, .c (I ch)), (7, .c (ints_r va Pa))] ∧ H = [strm v zs a2]) [some 0] (fun _ => [(3, .p 0 0 0), (4, .c (legs_r vl l)), (5, .c (ints_r vc cs)), (6, .c (I ch)), (7, .c (ints_r va Pa))]) (fun _ => [strm v zs _]) (by decide) (ZNL hE) ZCF ZCH (fun _ => ⟨_, by omega, by omega, rfl, rfl⟩)) ?_
  rintro F H ⟨a2, ha1, ha2, rfl, rfl⟩
  clear hc1 hc2 hl1 hl2
  refine WR ?_
  refine al_ef rfl (ef_call0 true (fun _ => cloneL_a (l.map Leg.row) vl (okLegs l) (by omega)) rfl .fn rfl (by decide) (by kernel_rfl) rfl (fun _ => .cons (.c rfl) .nil) (fun _ _ u Hr ⟨c, _, hu, hH⟩ => by rw [hu, hH]; exact ⟨.o, fun o ho => by rw [List.mem_singleton.1 ho]; exact leg_flat _ _⟩)) ?_
  rintro _ _ ⟨_, _, _, ⟨k1, hk1, rfl, rfl⟩, hF, hH⟩
  (try simp only [nsl, Nat.reduceAdd, Nat.reduceLT, Nat.reduceSub] at hF); (try simp only [nsl, Nat.reduceAdd, Nat.reduceLT, Nat.reduceSub] at hH); subst hF; subst hH
  refine WO ?_
  refine al_ef rfl (ef_call0 true (fun _ => cloneI_a (cs.map fun z => [I z]) vc (okInts cs) (by omega)) rfl .fn rfl (by decide) (by kernel_rfl) rfl (fun _ => .cons (.c rfl) .nil) (fun _ _ u Hr ⟨c, _, hu, hH⟩ => by rw [hu, hH]; exact ⟨.o, fun o ho => by rw [List.mem_singleton.1 ho]; exact int_flat _ _⟩)) ?_
  rintro _ _ ⟨_, _, _, ⟨k2, hk2, rfl, rfl⟩, hF, hH⟩
  (try simp only [nsl, Nat.reduceAdd, Nat.reduceLT, Nat.reduceSub] at hF); (try simp only [nsl, Nat.reduceAdd, Nat.reduceLT, Nat.reduceSub] at hH); subst hF; subst hH
  refine WE ?_
  refine WR ?_
  refine al_ef rfl (ef_callm false (fun _ => next_a _ _ _ _ hs (by omega) (by omega) (by simp only [in64]; omega)) rfl .fn rfl (by decide) (by kernel_rfl) rfl rfl (fun _g => .cons (.p rfl) (.cons (.c rfl) .nil)) (fun _g => .cons (.c rfl) (.cons (.c rfl) .nil)) (by simp)) ?_
  rintro F1 H1 ⟨_, _, _, _, ⟨r, rfl, hq, hr1, hr2⟩, hF, hH⟩
  injection hq with hq1 hq2; subst hq1; subst hq2
  (try simp only [nsl, Nat.reduceAdd, Nat.reduceLT, Nat.reduceSub] at hF); (try simp only [nsl, Nat.reduceAdd, Nat.reduceLT, Nat.reduceSub] at hH); subst hF; subst hH
  obtain ⟨i, rfl⟩ : ∃ i : Nat, r = i := ⟨r.toNat, by omega⟩
  have hk : i < l.length := by have := hr2 (by omega); omega
  obtain ⟨x, hx⟩ : ∃ x, l[i]? = some x := ⟨_, List.getElem?_eq_getElem hk⟩
  have hrow : (l.map Leg.row)[i]? = some [I x.long, I x.limit] := by rw [List.getElem?_map, hx]; rfl
  refine WE ?_
  obtain ⟨g1, g2, g3, g4⟩ := hr.legs x (List.mem_of_getElem? hx)
  refine ZZ ?_
  refine aw_regionT [(0, none), (1, none), (2, none), (3, none), (4, none), (5, none), (6, none), (7, none), (8, some [0, 1, 2, 3, 4, 5, 6]), (9, none), (10, none), (11, none), (12, none), (13, some [])] hMixed (by kernel_rfl) ?_
  refine WP ?_
  refine at_ef rfl rfl (ef_callm false (fun _ => range_a 0 50 _ _ _ hs (by omega) (by omega) (by omega) (by omega) (by omega) (by omega)) rfl .fn rfl (by decide) (by kernel_rfl) rfl rfl (fun _g => .cons (.p rfl) (.cons (.c rfl) (.cons (.c rfl) .nil))) (fun _g => .cons (.c rfl) (.cons (.c rfl) .nil)) (by simp)) ?_
  rintro F1 H1 ⟨_, _, _, _, ⟨rr, ar, rfl, hq, hr3, hr4, hr1, hr2, _⟩, hF, hH⟩
  injection hq with hq1 hq2; subst hq1; subst hq2
  (try simp only [nsl, Nat.reduceAdd, Nat.reduceLT, Nat.reduceSub] at hF); (try simp only [nsl, Nat.reduceAdd, Nat.reduceLT, Nat.reduceSub] at hH); subst hF; subst hH
  have h64r : in64 rr := by simp only [in64]; omega
  refine ⟨ag_cons (by first | exact ag_rd rfl rfl rfl (rd_move rfl rfl) rfl) (ag_cons (by first | exact ag_rd rfl rfl rfl (rd_move rfl rfl) rfl) (ag_cons (by first | exact ag_rd rfl rfl rfl (rd_move rfl rfl) rfl) (ag_cons (by first | exact ag_rd rfl rfl rfl (rd_move rfl rfl) rfl) (ag_cons (by first | exact ag_rd rfl rfl rfl (ZI (KE (t := 26) rfl)) rfl | exact ag_rd rfl rfl rfl (ZJ (KE (t := 26) rfl)) rfl | exact ag_rd rfl rfl rfl (rd_indexj rfl (KE (t := 26) rfl) rfl rfl rfl (by first | rfl | omega) (by omega) (by omega)) rfl) (ag_cons (by first | exact ag_rd rfl rfl rfl (ZX (KF (t := 38) (f := 1) rfl rfl)) rfl) (ag_cons (by first | exact ag_rd rfl rfl rfl (ZL (KK (t := 3) rfl)) rfl) (ag_none))))))), ?_⟩
  refine WQ ?_
  refine aw_wk (wk_of (K := fun F H => ∃ a3 m : Int, 0 ≤ a3 ∧ a3 ≤ 300 ∧ x.limit ≤ m ∧ m ≤ 100000 ∧ F = [(3, .p 0 0 0), (4, .c (legs_r vl l)), (5, .c (ints_r vc cs)), (6, .c (I ch)), (7, .c (ints_r va Pa)), (9, .o 1 0 (l.map Leg.row).length k1), (10, .o 2 0 (cs.map fun z => [I z]).length k2), (11, .c (I i))] ∧ H = [strm v zs a3, .arr 38 2 k1 ((l.set i (⟨x.long, m⟩ : Leg)).map Leg.row), .arr 3 1 k2 (cs.map fun z => [I z])]) [some 0, some 1, some 2] (fun _ => [(3, .p 0 0 0), (4, .c (legs_r vl l)), (5, .c (ints_r vc cs)), (6, .c (I ch)), (7, .c (ints_r va Pa)), (9, .o 1 0 (l.map Leg.row).length k1), (10, .o 2 0 (cs.map fun z => [I z]).length k2), (11, .c (I i))]) (fun _ => _) (by decide) (ZNL hE) ZCF ZCH (fun _ => ⟨ar, min (x.limit + rr) 100000, by omega, by omega, by omega, by omega, rfl, by rw [List.map_set, Nat.zero_add]⟩)) ?_
  clear hr3 hr4 hr1 hr2
  rintro F H ⟨a3, m, ha3, ha4, hm1, hm2, rfl, rfl⟩
  obtain ⟨l2, hl2⟩ : ∃ W, W = l.set i (⟨x.long, m⟩ : Leg) := ⟨_, rfl⟩
  have hl2l : l2.length = l.length := by rw [hl2]; simp
  refine WR ?_
  refine al_nil ?_
  refine aseq_n ?_
  refine aw_cut (fun F H => ∃ (vy vd : Value) (cs2 : List Int) (a5 : Int), 0 ≤ a5 ∧ a5 ≤ 400 ∧ cs2.length = cs.length ∧ (∀ j, cs.getD j 0 ≤ cs2.getD j 0) ∧ Right l cs2 ∧ F = [(3, .p 0 0 0), (4, .c (legs_r vl l)), (5, .c (ints_r vc cs)), (6, .c (I ch)), (7, .c (ints_r va Pa)), (9, .c (legs_r vy l2)), (10, .c (ints_r vd cs2)), (11, .c (I i))] ∧ H = [strm v zs a5]) ?_ ?_ wk_aw
  · rw [hl2]
    refine aw_if rfl (fun hgt => ?_) (fun hle => ?_)
    · refine WR ?_
      refine al_ef rfl (ef_callm false (fun _ => next_a _ _ _ _ hs (by omega) (by omega) (by simp only [in64]; omega)) rfl .fn rfl (by decide) (by kernel_rfl) rfl rfl (fun _g => .cons (.p rfl) (.cons (.c rfl) .nil)) (fun _g => .cons (.c rfl) (.cons (.c rfl) .nil)) (by simp)) ?_
      rintro F1 H1 ⟨_, _, _, _, ⟨r, rfl, hq, hr1, hr2⟩, hF, hH⟩
      injection hq with hq1 hq2; subst hq1; subst hq2
      (try simp only [nsl, Nat.reduceAdd, Nat.reduceLT, Nat.reduceSub] at hF); (try simp only [nsl, Nat.reduceAdd, Nat.reduceLT, Nat.reduceSub] at hH); subst hF; subst hH
      obtain ⟨k, rfl⟩ : ∃ i : Nat, r = i := ⟨r.toNat, by omega⟩
      have hkc : k < cs.length := by have := hr2 (by omega); omega
      obtain ⟨c, hcx⟩ : ∃ x, cs[k]? = some x := ⟨_, List.getElem?_eq_getElem hkc⟩
      have hrowc : (cs.map fun z => [I z])[k]? = some [I c] := by rw [List.getElem?_map, hcx]; rfl
      have hcb := hr.cor c (List.mem_of_getElem? hcx)
      refine WE ?_
      refine ZZ ?_
      refine aw_regionT [(0, none), (1, none), (2, none), (3, none), (4, none), (5, none), (6, none), (7, some [0, 1, 2, 3, 4, 5]), (8, none), (9, none), (10, none), (11, some [])] hMixed (by kernel_rfl) ?_
      refine WP ?_
      refine at_ef rfl rfl (ef_callm false (fun _ => range_a 0 50 _ _ _ hs (by omega) (by omega) (by omega) (by omega) (by omega) (by omega)) rfl .fn rfl (by decide) (by kernel_rfl) rfl rfl (fun _g => .cons (.p rfl) (.cons (.c rfl) (.cons (.c rfl) .nil))) (fun _g => .cons (.c rfl) (.cons (.c rfl) .nil)) (by simp)) ?_
      rintro F1 H1 ⟨_, _, _, _, ⟨rr, ar, rfl, hq, hr3, hr4, hr1, hr2, _⟩, hF, hH⟩
      injection hq with hq1 hq2; subst hq1; subst hq2
      (try simp only [nsl, Nat.reduceAdd, Nat.reduceLT, Nat.reduceSub] at hF); (try simp only [nsl, Nat.reduceAdd, Nat.reduceLT, Nat.reduceSub] at hH); subst hF; subst hH
      have h64r : in64 rr := by simp only [in64]; omega
      refine ⟨ag_cons (by first | exact ag_rd rfl rfl rfl (rd_move rfl rfl) rfl) (ag_cons (by first | exact ag_rd rfl rfl rfl (rd_move rfl rfl) rfl) (ag_cons (by first | exact ag_rd rfl rfl rfl (rd_move rfl rfl) rfl) (ag_cons (by first | exact ag_rd rfl rfl rfl (rd_move rfl rfl) rfl) (ag_cons (by first | exact ag_rd rfl rfl rfl (ZI (KE (t := 22) rfl)) rfl | exact ag_rd rfl rfl rfl (ZJ (KE (t := 22) rfl)) rfl | exact ag_rd rfl rfl rfl (rd_indexj rfl (KE (t := 22) rfl) rfl rfl rfl (by first | rfl | omega) (by omega) (by omega)) rfl) (ag_cons (by first | exact ag_rd rfl rfl rfl (ZL (KK (t := 3) rfl)) rfl) (ag_none)))))), ?_⟩
      refine WQ ?_
      exact wk_of [some 0] (fun g => [(3, .p 0 0 0), (4, .c (legs_r vl l)), (5, .c (ints_r vc cs)), (6, .c (I ch)), (7, .c (ints_r va Pa)), (9, .c (legs_r (g (.o 1 0 (l.map Leg.row).length k1)) (l.set i ⟨x.long, m⟩))), (10, .c (ints_r (g (.o 2 0 (cs.map fun z => [I z]).length k2)) (cs.set k (min (c + rr) 100000)))), (11, .c (I i))]) (fun _ => [strm v zs _]) (by decide) (ZNL hE) (fun _g => .cons rfl (.p rfl) (.cons rfl (.c rfl) (.cons rfl (.c rfl) (.cons rfl (.c rfl) (.cons rfl (.c rfl) (.cons rfl (.frz rfl rfl (by rw [List.drop_zero, List.take_of_length_le (by simp)]) (by simp) rfl) (.cons rfl (.frz rfl rfl (by rw [List.drop_zero, List.take_of_length_le (by simp), Nat.zero_add, List.map_set]) (by simp) rfl) (.cons rfl (.c rfl) .nil)))))))) ZCH (fun _ => ⟨_, _, cs.set k (min (c + rr) 100000), _, by omega, by omega, by simp, fun j => cors_setC hcx (by omega) j, right_setC hr (by omega), rfl, rfl⟩)
    · refine ZZ ?_
      exact wk_of [some 0] (fun g => [(3, .p 0 0 0), (4, .c (legs_r vl l)), (5, .c (ints_r vc cs)), (6, .c (I ch)), (7, .c (ints_r va Pa)), (9, .c (legs_r (g (.o 1 0 (l.map Leg.row).length k1)) (l.set i ⟨x.long, m⟩))), (10, .c (ints_r (g (.o 2 0 (cs.map fun z => [I z]).length k2)) cs)), (11, .c (I i))]) (fun _ => [strm v zs _]) (by decide) (ZNL hE) (fun _g => .cons rfl (.p rfl) (.cons rfl (.c rfl) (.cons rfl (.c rfl) (.cons rfl (.c rfl) (.cons rfl (.c rfl) (.cons rfl (.frz rfl rfl (by rw [List.drop_zero, List.take_of_length_le (by simp)]) (by simp) rfl) (.cons rfl (.frz rfl rfl (by rw [List.drop_zero, List.take_of_length_le (by simp)]) (by simp) rfl) (.cons rfl (.c rfl) .nil)))))))) ZCH (fun _ => ⟨_, _, cs, _, by omega, by omega, rfl, fun j => Int.le_refl _, hr, rfl, rfl⟩)
  rintro F H ⟨vy, vd, cs2, a5, ha5, ha6, hc2l, hcs2, hrc, rfl, rfl⟩
  have hr2' : Right l2 cs2 := by rw [hl2]; exact right_setL hrc hx ⟨hm1, hm2⟩
  refine WR ?_
  refine al_ef rfl (ef_callm false (fun _ => range_a 0 20 _ _ _ hs (by omega) (by omega) (by omega) (by omega) (by omega) (by omega)) rfl .fn rfl (by decide) (by kernel_rfl) rfl rfl (fun _g => .cons (.p rfl) (.cons (.c rfl) (.cons (.c rfl) .nil))) (fun _g => .cons (.c rfl) (.cons (.c rfl) .nil)) (by simp)) ?_
  rintro F1 H1 ⟨_, _, _, _, ⟨rr, ar, rfl, hq, hr3, hr4, hr1, hr2, _⟩, hF, hH⟩
  injection hq with hq1 hq2; subst hq1; subst hq2
  (try simp only [nsl, Nat.reduceAdd, Nat.reduceLT, Nat.reduceSub] at hF); (try simp only [nsl, Nat.reduceAdd, Nat.reduceLT, Nat.reduceSub] at hH); subst hF; subst hH
  have h64r : in64 rr := by simp only [in64]; omega
  refine WO ?_
  refine al_ef rfl (ef_call0 false (fun _ => speedsx_a l2 cs2 (ch + rr) vy vd (by omega) (by omega)) rfl .fn rfl (by decide) (by kernel_rfl) rfl (fun _ => C0 rfl) (by simp)) ?_
  rintro _ _ ⟨_, _, _, ⟨vw, rfl, rfl⟩, hF, hH⟩
  have hf2 : faultL l2 cs2 (ch + rr) = 0 := faultL_zero hr2' (by omega)
  obtain ⟨W, hW⟩ : ∃ W, W = speedsS l2 cs2 (ch + rr) := ⟨_, rfl⟩
  have e4 : (W.map fun z => [I z]).length = l.length + 1 := by rw [List.length_map, hW, speedsS_len, hl2l]
  rw [hf2, if_pos rfl, ← hW] at hF
  (try simp only [nsl, Nat.reduceAdd, Nat.reduceLT, Nat.reduceSub] at hF); (try simp only [nsl, Nat.reduceAdd, Nat.reduceLT, Nat.reduceSub] at hH); subst hF; subst hH
  refine WE ?_
  have hmono : ∀ k, k ≤ l.length → spdL l cs ch k ≤ spdL l2 cs2 (ch + rr) k := speeds_more hr hr2' (by omega) (by omega) hl2l (fun j _ => by rw [hl2]; exact legs_setL hx hm1 j) (fun j _ => hcs2 j)
  refine WA ?_
  refine aw_cond_f rfl ?_
  refine ZZ ?_
  refine WA ?_
  refine aw_loopw (fun q F H => ∃ (k : Nat) (a7 : Int), q + k = l.length + 1 ∧ 0 ≤ a7 ∧ a7 ≤ 500 ∧ F = [(3, .p 0 0 0), (4, .c (legs_r vl l)), (5, .c (ints_r vc cs)), (6, .c (I ch)), (7, .c (ints_r va Pa)), (11, .c (I i)), (13, .c (ints_r vw W)), (111, .c (I (Pa.map fun z => [I z]).length)), (112, .c (I k))] ∧ H = [strm v zs a7]) ?_ ?_
  · refine wk_of [some 0] (fun _ => [(3, .p 0 0 0), (4, .c (legs_r vl l)), (5, .c (ints_r vc cs)), (6, .c (I ch)), (7, .c (ints_r va Pa)), (11, .c (I i)), (13, .c (ints_r vw W)), (111, .c (I (Pa.map fun z => [I z]).length)), (112, .c (I (0 : Nat)))]) (fun _ => [strm v zs _]) (by decide) (ZNL hE) ZCF ZCH (fun _ => ?_)
    exact ⟨l.length + 1, 0, _, by omega, by omega, by omega, rfl, rfl⟩
  rintro q F H ⟨k, a7, hk, ha7, ha8, rfl, rfl⟩
  refine WA ?_
  refine aw_if rfl (fun hlt => ?_) (fun hge => ?_)
  · have hle := hmono k (by omega)
    have hse : Pa[k]? = some (spdL l cs ch k) := by rw [hPa]; exact speedsS_get (by omega)
    have hsw : W[k]? = some (spdL l2 cs2 (ch + rr) k) := by rw [hW]; exact speedsS_get (by omega)
    obtain ⟨s, hss⟩ : ∃ s, s = spdL l cs ch k := ⟨_, rfl⟩
    obtain ⟨s2, hss2⟩ : ∃ s, s = spdL l2 cs2 (ch + rr) k := ⟨_, rfl⟩
    rw [← hss] at hse hle
    rw [← hss2] at hsw hle
    have hrow1 : (Pa.map fun z => [I z])[k]? = some [I s] := by rw [List.getElem?_map, hse]; rfl
    have hrow2 : (W.map fun z => [I z])[k]? = some [I s2] := by rw [List.getElem?_map, hsw]; rfl
    refine WA ?_
    refine ZZ ?_
    refine aw_regionT [(0, none), (1, none), (2, none), (3, none), (4, none), (5, none), (6, none), (7, none), (8, none)] hMixed (by kernel_rfl) ?_
    refine WQ ?_
    refine aw_cond_f rfl ?_
    refine ZZ ?_
    refine WA ?_
    refine wk_of [some 0] (fun _ => [(3, .p 0 0 0), (4, .c (legs_r vl l)), (5, .c (ints_r vc cs)), (6, .c (I ch)), (7, .c (ints_r va Pa)), (11, .c (I i)), (13, .c (ints_r vw W)), (111, .c (I (Pa.map fun z => [I z]).length)), (112, .c (I (k + 1 : Nat)))]) (fun _ => [strm v zs _]) (by decide) (ZNL hE) ZCF ZCH (fun _ => ?_)
    exact ⟨q - 1, by omega, k + 1, _, by omega, by omega, by omega, rfl, rfl⟩
  refine ZZ ?_
  refine WA ?_
  refine aw_if rfl (fun hlg => ?_) (fun hlg => ?_)
  · refine ZR ?_
    refine al_ef rfl (ef_call0 false (fun _ => ready_a) rfl .fn rfl (by decide) (by kernel_rfl) rfl (fun _ => C0 rfl) (by simp)) ?_
    rintro _ _ ⟨_, _, _, ⟨rfl, rfl⟩, hF, hH⟩
    (try simp only [nsl, Nat.reduceAdd, Nat.reduceLT, Nat.reduceSub] at hF); (try simp only [nsl, Nat.reduceAdd, Nat.reduceLT, Nat.reduceSub] at hH); subst hF; subst hH
    refine WE ?_
    exact aret_1 [] _ rfl rfl rfl (by decide) (ZNK rfl) (fun _ => .nil) rfl
  refine ZZ ?_
  clear hr1 hr2 hr3 hr4 h64r hmono hW e4 hf2
  refine WR ?_
  refine al_ef rfl (ef_callm false (fun _ => next_a (x.long - 1) _ _ _ hs (by omega) (by omega) (by simp only [in64]; omega)) rfl .fn rfl (by decide) (by kernel_rfl) rfl rfl (fun _g => .cons (.p rfl) (.cons (.c rfl) .nil)) (fun _g => .cons (.c rfl) (.cons (.c rfl) .nil)) (by simp)) ?_
  rintro F1 H1 ⟨_, _, _, _, ⟨rr, rfl, hq, hr1, hr2⟩, hF, hH⟩
  injection hq with hq1 hq2; subst hq1; subst hq2
  (try simp only [nsl, Nat.reduceAdd, Nat.reduceLT, Nat.reduceSub] at hF); (try simp only [nsl, Nat.reduceAdd, Nat.reduceLT, Nat.reduceSub] at hH); subst hF; subst hH
  refine WO ?_
  have hrr := hr2 (by omega)
  have hk0 : i < l.length := (List.getElem?_eq_some_iff.1 hx).1
  refine al_ef rfl (ef_call0 false (fun _ => split_a l cs vl vc i (1 + rr) (by omega) (by omega)) rfl .fn rfl (by decide) (by kernel_rfl) rfl (fun _ => C0 rfl) (by simp)) ?_
  rintro _ _ ⟨_, _, _, ⟨v1, v2, rfl, rfl⟩, hF, hH⟩
  rw [split_ok hcf hx (by omega) (by omega), if_pos rfl, if_pos rfl, split_is hx] at hF
  (try simp only [nsl, Nat.reduceAdd, Nat.reduceLT, Nat.reduceSub] at hF); (try simp only [nsl, Nat.reduceAdd, Nat.reduceLT, Nat.reduceSub] at hH); subst hF; subst hH
  refine WE ?_
  have hsl : (splL l i x (1 + rr)).length = l.length + 1 := splL_len hk0
  have hsc : (splC cs i x).length = cs.length + 1 := splC_len (by omega)
  have hfs : faultL (splL l i x (1 + rr)) (splC cs i x) ch = 0 := faultL_zero (right_split hr hx ⟨by omega, by omega⟩ (by omega)) (by omega)
  obtain ⟨U, hU⟩ : ∃ W, W = speedsS (splL l i x (1 + rr)) (splC cs i x) ch := ⟨_, rfl⟩
  have hUl : U.length = l.length + 1 + 1 := by rw [hU, speedsS_len, hsl]
  refine WR ?_
  refine al_ef rfl (ef_call0 false (fun _ => speedsx_o (splL l i x (1 + rr)) (splC cs i x) ch v1 v2 (by omega) (by omega) hfs) rfl .fn rfl (by decide) (by kernel_rfl) rfl (fun _ => C0 rfl) (by simp)) ?_
  rintro _ _ ⟨_, _, _, ⟨k3, hk3, rfl, rfl⟩, hF, hH⟩
  rw [hsl] at hF hk3
  rw [← hU] at hH
  (try simp only [nsl, Nat.reduceAdd, Nat.reduceLT, Nat.reduceSub] at hF); (try simp only [nsl, Nat.reduceAdd, Nat.reduceLT, Nat.reduceSub] at hH); subst hF; subst hH
  refine WE ?_
  refine WR ?_
  refine al_ef rfl (ef_call0 true (fun _ => errsp_a [0, 0] _ (by simp)) rfl .fn rfl (by decide) (by kernel_rfl) rfl (fun _g => .cons (.frz rfl rfl rfl rfl rfl) .nil) (fun _ _ _ _ ⟨hu, hH⟩ => by rw [hu, hH]; exact ⟨.c (.inl trivial), by simp⟩)) ?_
  rintro _ _ ⟨_, _, _, ⟨rfl, rfl⟩, hF, hH⟩
  rw [show firstK [0, 0] = 0 from rfl] at hF
  (try simp only [nsl, Nat.reduceAdd, Nat.reduceLT, Nat.reduceSub] at hF); (try simp only [nsl, Nat.reduceAdd, Nat.reduceLT, Nat.reduceSub] at hH); subst hF; subst hH
  refine WE ?_
  refine aw_cond_f rfl ?_
  refine ZZ ?_
  refine WR ?_
  refine al_ef rfl (ef_call [1] (fun _ => [.arr 3 1 k3 (U.map fun z => [I z])]) false (fun _ => deleteI_a U (i + 1) k3 (by omega) (by omega) (by omega)) rfl .fn rfl (by decide) (by kernel_rfl) rfl (fun _ => .cons (.o rfl (by omega)) (.cons (.c (congrArg I (by omega))) (.cons (.c (congrArg I (by omega))) .nil))) (by decide) ZCH (by simp)) ?_
  rintro F1 H1 ⟨_, _, _, _, ⟨l4, hl4, rfl, hq⟩, hF, hH⟩
  subst hq
  (try simp only [List.set_cons_zero, List.set_cons_succ, updH, posOf, lentArr, killF, killO, killV, AV.has, AV.hasL, AV.emb, AV.embL, OB.emb, embB, List.filter_cons, List.filter_nil, List.getElem?_cons_zero, List.getElem?_cons_succ, List.getD_cons_zero, List.getD_cons_succ, List.drop_succ_cons, List.drop_zero, List.drop_nil, List.contains_cons, List.contains_nil, Nat.reduceBEq, Nat.reduceEqDiff, beq_self_eq_true, Bool.or_false, Bool.false_or, Bool.or_true, Bool.true_or, Bool.false_eq_true, Option.map_some, Option.map_none, List.map_cons, List.map_nil, List.cons_append, List.nil_append, List.append_nil, List.length_cons, List.length_nil, Nat.reduceAdd, Nat.reduceLT, Nat.reduceSub, if_true, if_false, Nat.zero_add, Nat.add_zero, Nat.sub_zero, Nat.lt_irrefl, Nat.not_lt_zero, Nat.zero_lt_one, Nat.lt_add_one] at hF); (try simp only [List.set_cons_zero, List.set_cons_succ, updH, posOf, lentArr, killF, killO, killV, AV.has, AV.hasL, AV.emb, AV.embL, OB.emb, embB, List.filter_cons, List.filter_nil, List.getElem?_cons_zero, List.getElem?_cons_succ, List.getD_cons_zero, List.getD_cons_succ, List.drop_succ_cons, List.drop_zero, List.drop_nil, List.contains_cons, List.contains_nil, Nat.reduceBEq, Nat.reduceEqDiff, beq_self_eq_true, Bool.or_false, Bool.false_or, Bool.or_true, Bool.true_or, Bool.false_eq_true, Option.map_some, Option.map_none, List.map_cons, List.map_nil, List.cons_append, List.nil_append, List.append_nil, List.length_cons, List.length_nil, Nat.reduceAdd, Nat.reduceLT, Nat.reduceSub, if_true, if_false, Nat.zero_add, Nat.add_zero, Nat.sub_zero, Nat.lt_irrefl, Nat.not_lt_zero, Nat.zero_lt_one, Nat.lt_add_one] at hH); subst hF; subst hH
  refine WE ?_
  have hll4 : l4.length = l.length + 1 := by rw [hl4]; simp; omega
  refine WA ?_
  refine aw_loopw (fun q F H => ∃ (k : Nat), q + k = l.length + 1 ∧ F = [(7, .c (ints_r va Pa)), (21, .o 0 0 l4.length k3), (176, .c (I (Pa.map fun z => [I z]).length)), (177, .c (I k))] ∧ H = [.arr 3 1 k3 (l4.map fun z => [I z])]) ?_ ?_
  · refine wk_of [some 1] (fun _ => [(7, .c (ints_r va Pa)), (21, .o 0 0 l4.length k3), (176, .c (I (Pa.map fun z => [I z]).length)), (177, .c (I (0 : Nat)))]) (fun _ => _) (by decide) (ZNL hE) ZCF ZCH (fun _ => ?_)
    exact ⟨l.length + 1, 0, by omega, rfl, rfl⟩
  rintro q F H ⟨k, hk, rfl, rfl⟩
  refine WA ?_
  refine aw_if rfl (fun hlt => ?_) (fun hge => ?_)
  · have hse : Pa[k]? = some (spdL l cs ch k) := by rw [hPa]; exact speedsS_get (by omega)
    obtain ⟨s2, hs2, hle⟩ := rest_le hr hch.1 hx (a := 1 + rr) ⟨by omega, by omega⟩ (by omega) (k := k) (by omega)
    rw [← hU, ← hl4] at hs2
    obtain ⟨s, hss⟩ : ∃ s, s = spdL l cs ch k := ⟨_, rfl⟩
    rw [← hss] at hse hle
    have hrow1 : (Pa.map fun z => [I z])[k]? = some [I s] := by rw [List.getElem?_map, hse]; rfl
    have hrow2 : (l4.map fun z => [I z])[k]? = some [I s2] := by rw [List.getElem?_map, hs2]; rfl
    refine WA ?_
    refine ZZ ?_
    refine aw_regionT [(0, none), (1, none), (2, none), (3, none), (4, none), (5, none), (6, none), (7, none), (8, none)] hMixed (by kernel_rfl) ?_
    refine WQ ?_
    refine aw_cond_f rfl ?_
    refine ZZ ?_
    refine WA ?_
    refine wk_of [some 0] (fun _ => [(7, .c (ints_r va Pa)), (21, .o 0 0 l4.length k3), (176, .c (I (Pa.map fun z => [I z]).length)), (177, .c (I (k + 1 : Nat)))]) (fun _ => _) (by decide) (ZNL hE) ZCF ZCH (fun _ => ?_)
    exact ⟨q - 1, by omega, k + 1, by omega, rfl, rfl⟩
  refine ZZ ?_
  refine ZR ?_
  refine al_ef rfl (ef_call0 false (fun _ => ready_a) rfl .fn rfl (by decide) (by kernel_rfl) rfl (fun _ => C0 rfl) (by simp)) ?_
  rintro _ _ ⟨_, _, _, ⟨rfl, rfl⟩, hF, hH⟩
  (try simp only [nsl, Nat.reduceAdd, Nat.reduceLT, Nat.reduceSub] at hF); (try simp only [nsl, Nat.reduceAdd, Nat.reduceLT, Nat.reduceSub] at hH); subst hF; subst hH
  refine WE ?_
  exact aret_1 [] _ rfl rfl rfl (by decide) (ZNK rfl) (fun _ => .nil) rfl
end Go.Proofs.YtdmeohgojdfmoaaGreatDoor
