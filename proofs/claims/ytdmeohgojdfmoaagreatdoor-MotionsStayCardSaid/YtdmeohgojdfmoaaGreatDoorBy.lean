/- The law MotionsStay, walked. -/
import Derived.Test.YtdmeohgojdfmoaaGreatDoorGy
import Derived.Test.YtdmeohgojdfmoaaGreatDoorPvx
import Derived.Test.YtdmeohgojdfmoaaGreatDoorSs
import Derived.Test.YtdmeohgojdfmoaaGreatDoorMb
import Derived.Test.YtdmeohgojdfmoaaGreatDoorGd
import Derived.Test.YtdmeohgojdfmoaaGreatDoorGb
import Derived.Test.YtdmeohgojdfmoaaGreatDoorPvz
import Derived.Test.YtdmeohgojdfmoaaGreatDoorGc
import Derived.Test.YtdmeohgojdfmoaaGreatDoorGa
import Derived.Test.YtdmeohgojdfmoaaGreatDoorMa
import Derived.Test.YtdmeohgojdfmoaaGreatDoorNb
import Derived.Test.YtdmeohgojdfmoaaGreatDoorXy
set_option linter.unusedSimpArgs false
set_option linter.unusedVariables false
/- Legs that are divided, by value. -/
namespace Go.Proofs.YtdmeohgojdfmoaaGreatDoor
open Go Go.RowKit
set_option maxRecDepth 100000
/-- A result that is an array of the call's own, given back by content. -/
theorem acalls_frz {P : Program} {f : FuncId} {args : List AV} {e : TypeId} {sz n : Nat} {rows : List (List CV)} (h : ACalls P f args [] fun u H => ∃ c : Nat, n ≤ c ∧ u = .o 0 0 n c ∧ H = [.arr e sz c rows]) (hn : rows.length = n) : ACalls P f args [] fun u H => ∃ v, u = .c (.r v rows) ∧ H = [] := fun S ρ w h1 h2 =>
  (h S ρ w h1 h2).mono fun e' w' ⟨u, H', ρ', S', h3, ⟨c, hc, hu, hH⟩, h4, h5, h6, h7, h8, h9, h10⟩ => by
    subst hu; subst hH
    obtain ⟨k1, k2⟩ := (Cvt.frz (g := AV.den ρ' _) (m := []) rfl rfl (by rw [List.drop_zero, List.take_of_length_le (by omega)]) hn rfl).sound h5 rfl (CvH.nil) h4
    refine ⟨_, [], reB ρ' [], _, h3.trans (congrArg Ending.returned k1.symm), ⟨_, rfl, rfl⟩, k2, h5.re rfl (by simp) (CvH.nil (g := AV.den ρ' _) (fz := true)), h6, fun b hb => ?_, fun i B hi => by rw [atB_reB] at hi; simp at hi, fun i hi => absurd hi (Nat.not_lt_zero _), fun h => by cases h⟩
    rcases hb with hb | ⟨_, b2, e, sz, cap, rows, g3, g4, g5⟩
    · exact h7 b hb
    · rcases h8 b2 b g3 with g6 | ⟨g6, _⟩
      · exact .inr g6
      · exact absurd g6 (Nat.not_lt_zero _)
def splF (l : List Leg) (leg at_ : Int) : Int := if leg < 0 ∨ (l.length : Int) ≤ leg then 8 else match l[leg.toNat]? with
  | some x => if at_ < 1 ∨ x.long ≤ at_ then 1 else if 2000 ≤ l.length then 2 else 0
  | none => 0
def splL (l : List Leg) (i : Nat) (x : Leg) (at_ : Int) : List Leg := l.take i ++ (⟨at_, x.limit⟩ :: ⟨x.long - at_, x.limit⟩ :: l.drop (i + 1))
def splC (cs : List Int) (i : Nat) (x : Leg) : List Int := cs.take i ++ (x.limit :: cs.drop i)
/-- What Split gives of right arguments. -/
def splR (l : List Leg) (cs : List Int) (leg at_ : Int) : List Leg × List Int := match l[leg.toNat]? with
  | some x => (splL l leg.toNat x at_, splC cs leg.toNat x)
  | none => ([], [])
end Go.Proofs.YtdmeohgojdfmoaaGreatDoor

/- A leg divided by the program, by value. -/
namespace Go.Proofs.YtdmeohgojdfmoaaGreatDoor
open Go Go.RowKit
set_option maxRecDepth 100000
-- NEWM
def splV (l : List Leg) (cs : List Int) (leg at_ : Int) : Int := if cornersF l cs ≠ 0 then cornersF l cs else splF l leg at_
set_option maxHeartbeats 4000000 in
theorem split_a (l : List Leg) (cs : List Int) (v w : Value) (leg at_ : Int) (hll : l.length ≤ 1000000) (hcc : cs.length ≤ 1000000) : ACalls Tryz.prog 42 [.c (legs_r v l), .c (ints_r w cs), .c (I leg), .c (I at_)] [] fun u H =>
    ∃ v' w', u = .t [.c (legs_r v' (if splV l cs leg at_ = 0 then (splR l cs leg at_).1 else [])), .c (ints_r w' (if splV l cs leg at_ = 0 then (splR l cs leg at_).2 else [])), .c (I (splV l cs leg at_))] ∧ H = [] := by
  have e1 : (l.map Leg.row).length = l.length := by simp
  have e2 : (cs.map fun z => [I z]).length = cs.length := by simp
  refine acalls_of (N := 70) Tryz.func42 rfl rfl (by simp) fun E hE => ?_
  refine WA ?_
  refine WR ?_
  refine al_ef rfl (ef_call0 false (fun _ => corners1_a l cs v w (by omega) (by omega)) rfl .fn rfl (by decide) (by kernel_rfl) rfl (fun _ => C0 rfl) (by simp)) ?_
  rintro _ _ ⟨_, _, _, ⟨rfl, rfl⟩, hF, hH⟩
  (try simp only [nsl, Nat.reduceAdd, Nat.reduceLT, Nat.reduceSub] at hF); (try simp only [nsl, Nat.reduceAdd, Nat.reduceLT, Nat.reduceSub] at hH); subst hF; subst hH
  refine WE ?_
  refine WA ?_
  refine aw_if rfl (fun h0 => ?_) (fun h0 => ?_)
  · have hv : splV l cs leg at_ = cornersF l cs := by rw [splV, if_pos h0]
    refine WA ?_
    exact aret_of (us := [.c (legs_r (.slice none 0 0) []), .c (ints_r (.slice none 0 0) []), .c (I (cornersF l cs))]) [] (fun _ => .t [.c (legs_r (.slice none 0 0) []), .c (ints_r (.slice none 0 0) []), .c (I (cornersF l cs))]) (fun _ => []) (.tmp rfl (.tmp rfl (.tmp rfl .nil))) (by decide) (ZNK rfl) (fun _ => .tL (C0 rfl)) (fun _ => .nil) (fun _ => ⟨_, _, by rw [hv, if_neg (by omega), if_neg (by omega)], rfl⟩)
  have h00 : cornersF l cs = 0 := by omega
  obtain ⟨r1, r2, r3, r4, r5⟩ := cornersF_ok h00
  refine ZZ ?_
  by_cases hl : 0 ≤ leg ∧ leg < l.length
  · obtain ⟨i, rfl⟩ : ∃ i : Nat, leg = i := ⟨leg.toNat, by omega⟩
    obtain ⟨x, hx⟩ : ∃ x, l[i]? = some x := ⟨_, List.getElem?_eq_getElem (by omega)⟩
    have hrow : (l.map Leg.row)[i]? = some [I x.long, I x.limit] := by rw [List.getElem?_map, hx]; rfl
    obtain ⟨g1, g2, g3, g4⟩ := r3 x (List.mem_of_getElem? hx)
    have hsp : splV l cs i at_ = if at_ < 1 ∨ x.long ≤ at_ then 1 else if 2000 ≤ l.length then 2 else 0 := by
      unfold splV splF; rw [if_neg h0, if_neg (by omega)]; simp only [Int.toNat_natCast, hx]
    have hsr : splR l cs i at_ = (splL l i x at_, splC cs i x) := by unfold splR; simp only [Int.toNat_natCast, hx]
    refine WA ?_
    refine aw_cond_f rfl ?_
    refine ZZ ?_
    refine WA ?_
    by_cases ha : 1 ≤ at_ ∧ at_ < x.long
    · rw [if_neg (by omega)] at hsp
      refine WA ?_
      refine aw_cond_f rfl ?_
      refine ZZ ?_
      refine WA ?_
      refine aw_if rfl (fun h2 => ?_) (fun h2 => ?_)
      · have hv : splV l cs i at_ = 2 := by rw [hsp, if_pos (by omega)]
        refine WA ?_
        exact aret_of (us := [.c (legs_r (.slice none 0 0) []), .c (ints_r (.slice none 0 0) []), .c (I 2)]) [] (fun _ => .t [.c (legs_r (.slice none 0 0) []), .c (ints_r (.slice none 0 0) []), .c (I 2)]) (fun _ => []) (.tmp rfl (.tmp rfl (.tmp rfl .nil))) (by decide) (ZNK rfl) (fun _ => .tL (C0 rfl)) (fun _ => .nil) (fun _ => ⟨_, _, by rw [hv, if_neg (by omega), if_neg (by omega)], rfl⟩)
      have hv0 : splV l cs i at_ = 0 := by rw [hsp, if_neg (by omega)]
      have hil : i < l.length := by omega
      refine ZZ ?_
      refine aw_cut (fun F H => ∃ cL : Nat, F = [(1, .c (ints_r w cs)), (2, .c (I i)), (3, .c (I at_)), (12, .p 0 0 0), (13, .o 1 0 ((l.map Leg.row).length + 1) cL)] ∧ H = [.box (x.row.map .c), .arr 38 2 cL ((l.map Leg.row).take i ++ [I at_, I x.limit] :: (l.map Leg.row).drop i)]) ?_ ?_ wk_aw
      · refine ZZ ?_
        refine aw_regionM [[(0, none), (2, none), (3, none), (4, none), (5, none), (6, none), (1, some [2, 3, 4, 5, 6]), (7, some [0, 2]), (8, some []), (9, none)], [(0, none), (2, none), (3, none), (4, none), (5, none), (6, none), (7, some [0, 2]), (1, some [2, 3, 4, 5, 6]), (8, some []), (9, none)]] hMixed (by kernel_rfl) ?_
        focus
          refine WM ?_
          refine am_two (by rfl) (by rfl) (by rfl) ?_ ?_
          rotate_left
          refine WM ?_
          refine am_ef (i := 1) (by rfl) (by rfl) rfl rfl (ef_call0 true (fun _ => cloneL_a (l.map Leg.row) v (okLegs l) (by omega)) rfl .fn rfl (by decide) (by kernel_rfl) rfl (fun _ => .cons (.c rfl) .nil) (fun _ _ u Hr ⟨c, _, hu, hH⟩ => by rw [hu, hH]; exact ⟨.o, fun o ho => by rw [List.mem_singleton.1 ho]; exact leg_flat _ _⟩)) ?_
          rintro _ _ ⟨_, _, _, ⟨c1, hc1, rfl, rfl⟩, hF, hH⟩
          (try simp only [nsl, Nat.reduceAdd, Nat.reduceLT, Nat.reduceSub] at hF); (try simp only [nsl, Nat.reduceAdd, Nat.reduceLT, Nat.reduceSub] at hH); subst hF; subst hH
          refine ⟨AGX, ?_⟩
          first | refine am_ef (i := 8) (by rfl) (by rfl) rfl rfl (ef_call [1, 2] (fun _ => [.arr 38 2 c1 (l.map Leg.row), .arr 38 2 1 [[I at_, I x.limit]]]) false (fun _ => insL_a [I at_, I x.limit] (l.map Leg.row) i c1 (by omega) (by omega) (by omega)) rfl .fn rfl (by decide) (by kernel_rfl) rfl (fun _ => .cons (.o rfl rfl) (.cons (.c rfl) (.cons (.o rfl rfl) .nil))) (by decide) (fun _ => .arr rfl rfl (.arr rfl rfl .nil)) (by simp)) ?_ | refine am_ef (i := 8) (by rfl) (by rfl) rfl rfl (ef_call [2, 1] (fun _ => [.arr 38 2 c1 (l.map Leg.row), .arr 38 2 1 [[I at_, I x.limit]]]) false (fun _ => insL_a [I at_, I x.limit] (l.map Leg.row) i c1 (by omega) (by omega) (by omega)) rfl .fn rfl (by decide) (by kernel_rfl) rfl (fun _ => .cons (.o rfl rfl) (.cons (.c rfl) (.cons (.o rfl rfl) .nil))) (by decide) (fun _ => .arr rfl rfl (.arr rfl rfl .nil)) (by simp)) ?_
          rintro F1 H1 ⟨_, _, _, _, ⟨c2, rfl, rfl⟩ | ⟨c2, rfl, rfl⟩, hF, hH⟩ <;> ((try simp only [List.set_cons_zero, List.set_cons_succ, updH, posOf, lentArr, killF, killO, killV, AV.has, AV.hasL, AV.emb, AV.embL, OB.emb, embB, List.filter_cons, List.filter_nil, List.getElem?_cons_zero, List.getElem?_cons_succ, List.getD_cons_zero, List.getD_cons_succ, List.drop_succ_cons, List.drop_zero, List.drop_nil, List.contains_cons, List.contains_nil, Nat.reduceBEq, Nat.reduceEqDiff, beq_self_eq_true, Bool.or_false, Bool.false_or, Bool.or_true, Bool.true_or, Bool.false_eq_true, Option.map_some, Option.map_none, List.map_cons, List.map_nil, List.cons_append, List.nil_append, List.append_nil, List.length_cons, List.length_nil, Nat.reduceAdd, Nat.reduceLT, Nat.reduceSub, if_true, if_false, Nat.zero_add, Nat.add_zero, Nat.sub_zero, Nat.lt_irrefl, Nat.not_lt_zero, Nat.zero_lt_one, Nat.lt_add_one] at hF); (try simp only [List.set_cons_zero, List.set_cons_succ, updH, posOf, lentArr, killF, killO, killV, AV.has, AV.hasL, AV.emb, AV.embL, OB.emb, embB, List.filter_cons, List.filter_nil, List.getElem?_cons_zero, List.getElem?_cons_succ, List.getD_cons_zero, List.getD_cons_succ, List.drop_succ_cons, List.drop_zero, List.drop_nil, List.contains_cons, List.contains_nil, Nat.reduceBEq, Nat.reduceEqDiff, beq_self_eq_true, Bool.or_false, Bool.false_or, Bool.or_true, Bool.true_or, Bool.false_eq_true, Option.map_some, Option.map_none, List.map_cons, List.map_nil, List.cons_append, List.nil_append, List.append_nil, List.length_cons, List.length_nil, Nat.reduceAdd, Nat.reduceLT, Nat.reduceSub, if_true, if_false, Nat.zero_add, Nat.add_zero, Nat.sub_zero, Nat.lt_irrefl, Nat.not_lt_zero, Nat.zero_lt_one, Nat.lt_add_one] at hH); subst hF; subst hH; refine ⟨AGX, ?_⟩; refine WN ?_)
          rotate_right
          refine am_ef (i := 1) (by rfl) (by rfl) rfl rfl (ef_call0 true (fun _ => cloneL_a (l.map Leg.row) v (okLegs l) (by omega)) rfl .fn rfl (by decide) (by kernel_rfl) rfl (fun _ => .cons (.c rfl) .nil) (fun _ _ u Hr ⟨c, _, hu, hH⟩ => by rw [hu, hH]; exact ⟨.o, fun o ho => by rw [List.mem_singleton.1 ho]; exact leg_flat _ _⟩)) ?_
          rintro _ _ ⟨_, _, _, ⟨c1, hc1, rfl, rfl⟩, hF, hH⟩
          (try simp only [nsl, Nat.reduceAdd, Nat.reduceLT, Nat.reduceSub] at hF); (try simp only [nsl, Nat.reduceAdd, Nat.reduceLT, Nat.reduceSub] at hH); subst hF; subst hH
          refine ⟨AGX, ?_⟩
          refine WM ?_
          first | refine am_ef (i := 8) (by rfl) (by rfl) rfl rfl (ef_call [1, 2] (fun _ => [.arr 38 2 c1 (l.map Leg.row), .arr 38 2 1 [[I at_, I x.limit]]]) false (fun _ => insL_a [I at_, I x.limit] (l.map Leg.row) i c1 (by omega) (by omega) (by omega)) rfl .fn rfl (by decide) (by kernel_rfl) rfl (fun _ => .cons (.o rfl rfl) (.cons (.c rfl) (.cons (.o rfl rfl) .nil))) (by decide) (fun _ => .arr rfl rfl (.arr rfl rfl .nil)) (by simp)) ?_ | refine am_ef (i := 8) (by rfl) (by rfl) rfl rfl (ef_call [2, 1] (fun _ => [.arr 38 2 c1 (l.map Leg.row), .arr 38 2 1 [[I at_, I x.limit]]]) false (fun _ => insL_a [I at_, I x.limit] (l.map Leg.row) i c1 (by omega) (by omega) (by omega)) rfl .fn rfl (by decide) (by kernel_rfl) rfl (fun _ => .cons (.o rfl rfl) (.cons (.c rfl) (.cons (.o rfl rfl) .nil))) (by decide) (fun _ => .arr rfl rfl (.arr rfl rfl .nil)) (by simp)) ?_
          rintro F1 H1 ⟨_, _, _, _, ⟨c2, rfl, rfl⟩ | ⟨c2, rfl, rfl⟩, hF, hH⟩ <;> ((try simp only [List.set_cons_zero, List.set_cons_succ, updH, posOf, lentArr, killF, killO, killV, AV.has, AV.hasL, AV.emb, AV.embL, OB.emb, embB, List.filter_cons, List.filter_nil, List.getElem?_cons_zero, List.getElem?_cons_succ, List.getD_cons_zero, List.getD_cons_succ, List.drop_succ_cons, List.drop_zero, List.drop_nil, List.contains_cons, List.contains_nil, Nat.reduceBEq, Nat.reduceEqDiff, beq_self_eq_true, Bool.or_false, Bool.false_or, Bool.or_true, Bool.true_or, Bool.false_eq_true, Option.map_some, Option.map_none, List.map_cons, List.map_nil, List.cons_append, List.nil_append, List.append_nil, List.length_cons, List.length_nil, Nat.reduceAdd, Nat.reduceLT, Nat.reduceSub, if_true, if_false, Nat.zero_add, Nat.add_zero, Nat.sub_zero, Nat.lt_irrefl, Nat.not_lt_zero, Nat.zero_lt_one, Nat.lt_add_one] at hF); (try simp only [List.set_cons_zero, List.set_cons_succ, updH, posOf, lentArr, killF, killO, killV, AV.has, AV.hasL, AV.emb, AV.embL, OB.emb, embB, List.filter_cons, List.filter_nil, List.getElem?_cons_zero, List.getElem?_cons_succ, List.getD_cons_zero, List.getD_cons_succ, List.drop_succ_cons, List.drop_zero, List.drop_nil, List.contains_cons, List.contains_nil, Nat.reduceBEq, Nat.reduceEqDiff, beq_self_eq_true, Bool.or_false, Bool.false_or, Bool.or_true, Bool.true_or, Bool.false_eq_true, Option.map_some, Option.map_none, List.map_cons, List.map_nil, List.cons_append, List.nil_append, List.append_nil, List.length_cons, List.length_nil, Nat.reduceAdd, Nat.reduceLT, Nat.reduceSub, if_true, if_false, Nat.zero_add, Nat.add_zero, Nat.sub_zero, Nat.lt_irrefl, Nat.not_lt_zero, Nat.zero_lt_one, Nat.lt_add_one] at hH); subst hF; subst hH; refine ⟨AGX, ?_⟩; refine WN ?_)
        all_goals first
          | exact wk_of [some 0, some 1] (fun _ => [(1, .c (ints_r w cs)), (2, .c (I i)), (3, .c (I at_)), (12, .p 0 0 0), (13, .o 1 0 ((l.map Leg.row).length + 1) c2)]) (fun _ => [.box (x.row.map .c), .arr 38 2 c2 ((l.map Leg.row).take i ++ [I at_, I x.limit] :: (l.map Leg.row).drop i)]) (by decide) (ZNL hE) ZCF ZCH (fun _ => ⟨c2, rfl, rfl⟩)
          | exact wk_of [some 0, some 2] (fun _ => [(1, .c (ints_r w cs)), (2, .c (I i)), (3, .c (I at_)), (12, .p 0 0 0), (13, .o 1 0 ((l.map Leg.row).length + 1) c2)]) (fun _ => [.box (x.row.map .c), .arr 38 2 c2 ((l.map Leg.row).take i ++ [I at_, I x.limit] :: (l.map Leg.row).drop i)]) (by decide) (ZNL hE) ZCF ZCH (fun _ => ⟨c2, rfl, rfl⟩)
          | exact wk_of [some 0, some 3] (fun _ => [(1, .c (ints_r w cs)), (2, .c (I i)), (3, .c (I at_)), (12, .p 0 0 0), (13, .o 1 0 ((l.map Leg.row).length + 1) c2)]) (fun _ => [.box (x.row.map .c), .arr 38 2 c2 ((l.map Leg.row).take i ++ [I at_, I x.limit] :: (l.map Leg.row).drop i)]) (by decide) (ZNL hE) ZCF ZCH (fun _ => ⟨c2, rfl, rfl⟩)
      rintro F H ⟨cL, rfl, rfl⟩
      have hdr : (l.map Leg.row).drop i = [I x.long, I x.limit] :: (l.map Leg.row).drop (i + 1) := by
        rw [← List.map_drop, drop_consk hx, List.map_cons, List.map_drop]
      have hti : ((l.map Leg.row).take i).length = i := by simp; omega
      have hr1 : ((l.map Leg.row).take i ++ [I at_, I x.limit] :: (l.map Leg.row).drop i)[i + 1]? = some [I x.long, I x.limit] := by
        rw [hdr, List.getElem?_append_right (by omega), hti, show i + 1 - i = 1 from by omega]; rfl
      have hset : ((l.map Leg.row).take i ++ [I at_, I x.limit] :: (l.map Leg.row).drop i).set (i + 1) [I (x.long - at_), I x.limit] = (splL l i x at_).map Leg.row := by
        rw [hdr, List.set_append_right _ _ (by omega), hti, show i + 1 - i = 1 from by omega]
        simp [splL, List.map_append, List.map_take, List.map_drop]
      have hfL : ((((l.map Leg.row).take i ++ [I at_, I x.limit] :: (l.map Leg.row).drop i).set (i + 1) [I (x.long - at_), I x.limit]).drop 0).take ((l.map Leg.row).length + 1) = (splL l i x at_).map Leg.row := by
        rw [hset, List.drop_zero, List.take_of_length_le (by simp [splL]; omega)]
      have hlL : ((splL l i x at_).map Leg.row).length = (l.map Leg.row).length + 1 := by simp [splL]; omega
      have hci : (cs.map fun z => [I z]).take i ++ [I x.limit] :: (cs.map fun z => [I z]).drop i = (splC cs i x).map fun z => [I z] := by
        simp [splC, List.map_append, List.map_take, List.map_drop]
      have hlI : ((splC cs i x).map fun z => [I z]).length = (cs.map fun z => [I z]).length + 1 := by simp [splC]; omega
      have hfI : (((cs.map fun z => [I z]).take i ++ [I x.limit] :: (cs.map fun z => [I z]).drop i).drop 0).take ((cs.map fun z => [I z]).length + 1) = (splC cs i x).map fun z => [I z] := by
        rw [hci, List.drop_zero, List.take_of_length_le (by omega)]
      refine ZR ?_
      iterate 2 refine WX1 ?_
      refine ZA (rd_addz (z := ((i + 1 : Nat) : Int)) rfl rfl rfl (by omega) (by omega)) ?_
      refine WE ?_
      refine ZZ ?_
      refine aw_regionM [[(0, none), (1, none), (3, none), (4, none), (5, none), (2, some [0, 3, 4, 5]), (6, some [0, 1, 3]), (7, some [0]), (8, none), (9, none), (10, none)], [(0, none), (1, none), (3, none), (4, none), (5, none), (6, some [0, 1, 3]), (2, some [0, 3, 4, 5]), (7, some [0]), (8, none), (9, none), (10, none)]] hMixed (by kernel_rfl) ?_
      focus
        refine WM ?_
        refine am_two (by rfl) (by rfl) (by rfl) ?_ ?_
        rotate_left
        refine WM ?_
        refine am_ef (i := 2) (by rfl) (by rfl) rfl rfl (ef_call0 true (fun _ => cloneI_a (cs.map fun z => [I z]) w (okInts cs) (by omega)) rfl .fn rfl (by decide) (by kernel_rfl) rfl (fun _ => .cons (.c rfl) .nil) (fun _ _ u Hr ⟨c, _, hu, hH⟩ => by rw [hu, hH]; exact ⟨.o, fun o ho => by rw [List.mem_singleton.1 ho]; exact int_flat _ _⟩)) ?_
        rintro _ _ ⟨_, _, _, ⟨c2, hc2, rfl, rfl⟩, hF, hH⟩
        (try simp only [nsl, Nat.reduceAdd, Nat.reduceLT, Nat.reduceSub] at hF); (try simp only [nsl, Nat.reduceAdd, Nat.reduceLT, Nat.reduceSub] at hH); subst hF; subst hH
        refine ⟨AGX, ?_⟩
        first | refine am_ef (i := 7) (by rfl) (by rfl) rfl rfl (ef_call [2, 3] (fun _ => [.arr 3 1 c2 (cs.map fun z => [I z]), .arr 3 1 1 [[I x.limit]]]) false (fun _ => insI_a [I x.limit] (cs.map fun z => [I z]) i c2 (by omega) (by omega) (by omega)) rfl .fn rfl (by decide) (by kernel_rfl) rfl (fun _ => .cons (.o rfl rfl) (.cons (.c rfl) (.cons (.o rfl rfl) .nil))) (by decide) (fun _ => .arr rfl rfl (.arr rfl rfl .nil)) (by simp)) ?_ | refine am_ef (i := 7) (by rfl) (by rfl) rfl rfl (ef_call [3, 2] (fun _ => [.arr 3 1 c2 (cs.map fun z => [I z]), .arr 3 1 1 [[I x.limit]]]) false (fun _ => insI_a [I x.limit] (cs.map fun z => [I z]) i c2 (by omega) (by omega) (by omega)) rfl .fn rfl (by decide) (by kernel_rfl) rfl (fun _ => .cons (.o rfl rfl) (.cons (.c rfl) (.cons (.o rfl rfl) .nil))) (by decide) (fun _ => .arr rfl rfl (.arr rfl rfl .nil)) (by simp)) ?_
        rintro F1 H1 ⟨_, _, _, _, ⟨c3, rfl, rfl⟩ | ⟨c3, rfl, rfl⟩, hF, hH⟩ <;> ((try simp only [List.set_cons_zero, List.set_cons_succ, updH, posOf, lentArr, killF, killO, killV, AV.has, AV.hasL, AV.emb, AV.embL, OB.emb, embB, List.filter_cons, List.filter_nil, List.getElem?_cons_zero, List.getElem?_cons_succ, List.getD_cons_zero, List.getD_cons_succ, List.drop_succ_cons, List.drop_zero, List.drop_nil, List.contains_cons, List.contains_nil, Nat.reduceBEq, Nat.reduceEqDiff, beq_self_eq_true, Bool.or_false, Bool.false_or, Bool.or_true, Bool.true_or, Bool.false_eq_true, Option.map_some, Option.map_none, List.map_cons, List.map_nil, List.cons_append, List.nil_append, List.append_nil, List.length_cons, List.length_nil, Nat.reduceAdd, Nat.reduceLT, Nat.reduceSub, if_true, if_false, Nat.zero_add, Nat.add_zero, Nat.sub_zero, Nat.lt_irrefl, Nat.not_lt_zero, Nat.zero_lt_one, Nat.lt_add_one] at hF); (try simp only [List.set_cons_zero, List.set_cons_succ, updH, posOf, lentArr, killF, killO, killV, AV.has, AV.hasL, AV.emb, AV.embL, OB.emb, embB, List.filter_cons, List.filter_nil, List.getElem?_cons_zero, List.getElem?_cons_succ, List.getD_cons_zero, List.getD_cons_succ, List.drop_succ_cons, List.drop_zero, List.drop_nil, List.contains_cons, List.contains_nil, Nat.reduceBEq, Nat.reduceEqDiff, beq_self_eq_true, Bool.or_false, Bool.false_or, Bool.or_true, Bool.true_or, Bool.false_eq_true, Option.map_some, Option.map_none, List.map_cons, List.map_nil, List.cons_append, List.nil_append, List.append_nil, List.length_cons, List.length_nil, Nat.reduceAdd, Nat.reduceLT, Nat.reduceSub, if_true, if_false, Nat.zero_add, Nat.add_zero, Nat.sub_zero, Nat.lt_irrefl, Nat.not_lt_zero, Nat.zero_lt_one, Nat.lt_add_one] at hH); subst hF; subst hH; refine ⟨AGX, ?_⟩; refine WN ?_)
        rotate_right
        refine am_ef (i := 2) (by rfl) (by rfl) rfl rfl (ef_call0 true (fun _ => cloneI_a (cs.map fun z => [I z]) w (okInts cs) (by omega)) rfl .fn rfl (by decide) (by kernel_rfl) rfl (fun _ => .cons (.c rfl) .nil) (fun _ _ u Hr ⟨c, _, hu, hH⟩ => by rw [hu, hH]; exact ⟨.o, fun o ho => by rw [List.mem_singleton.1 ho]; exact int_flat _ _⟩)) ?_
        rintro _ _ ⟨_, _, _, ⟨c2, hc2, rfl, rfl⟩, hF, hH⟩
        (try simp only [nsl, Nat.reduceAdd, Nat.reduceLT, Nat.reduceSub] at hF); (try simp only [nsl, Nat.reduceAdd, Nat.reduceLT, Nat.reduceSub] at hH); subst hF; subst hH
        refine ⟨AGX, ?_⟩
        refine WM ?_
        first | refine am_ef (i := 7) (by rfl) (by rfl) rfl rfl (ef_call [2, 3] (fun _ => [.arr 3 1 c2 (cs.map fun z => [I z]), .arr 3 1 1 [[I x.limit]]]) false (fun _ => insI_a [I x.limit] (cs.map fun z => [I z]) i c2 (by omega) (by omega) (by omega)) rfl .fn rfl (by decide) (by kernel_rfl) rfl (fun _ => .cons (.o rfl rfl) (.cons (.c rfl) (.cons (.o rfl rfl) .nil))) (by decide) (fun _ => .arr rfl rfl (.arr rfl rfl .nil)) (by simp)) ?_ | refine am_ef (i := 7) (by rfl) (by rfl) rfl rfl (ef_call [3, 2] (fun _ => [.arr 3 1 c2 (cs.map fun z => [I z]), .arr 3 1 1 [[I x.limit]]]) false (fun _ => insI_a [I x.limit] (cs.map fun z => [I z]) i c2 (by omega) (by omega) (by omega)) rfl .fn rfl (by decide) (by kernel_rfl) rfl (fun _ => .cons (.o rfl rfl) (.cons (.c rfl) (.cons (.o rfl rfl) .nil))) (by decide) (fun _ => .arr rfl rfl (.arr rfl rfl .nil)) (by simp)) ?_
        rintro F1 H1 ⟨_, _, _, _, ⟨c3, rfl, rfl⟩ | ⟨c3, rfl, rfl⟩, hF, hH⟩ <;> ((try simp only [List.set_cons_zero, List.set_cons_succ, updH, posOf, lentArr, killF, killO, killV, AV.has, AV.hasL, AV.emb, AV.embL, OB.emb, embB, List.filter_cons, List.filter_nil, List.getElem?_cons_zero, List.getElem?_cons_succ, List.getD_cons_zero, List.getD_cons_succ, List.drop_succ_cons, List.drop_zero, List.drop_nil, List.contains_cons, List.contains_nil, Nat.reduceBEq, Nat.reduceEqDiff, beq_self_eq_true, Bool.or_false, Bool.false_or, Bool.or_true, Bool.true_or, Bool.false_eq_true, Option.map_some, Option.map_none, List.map_cons, List.map_nil, List.cons_append, List.nil_append, List.append_nil, List.length_cons, List.length_nil, Nat.reduceAdd, Nat.reduceLT, Nat.reduceSub, if_true, if_false, Nat.zero_add, Nat.add_zero, Nat.sub_zero, Nat.lt_irrefl, Nat.not_lt_zero, Nat.zero_lt_one, Nat.lt_add_one] at hF); (try simp only [List.set_cons_zero, List.set_cons_succ, updH, posOf, lentArr, killF, killO, killV, AV.has, AV.hasL, AV.emb, AV.embL, OB.emb, embB, List.filter_cons, List.filter_nil, List.getElem?_cons_zero, List.getElem?_cons_succ, List.getD_cons_zero, List.getD_cons_succ, List.drop_succ_cons, List.drop_zero, List.drop_nil, List.contains_cons, List.contains_nil, Nat.reduceBEq, Nat.reduceEqDiff, beq_self_eq_true, Bool.or_false, Bool.false_or, Bool.or_true, Bool.true_or, Bool.false_eq_true, Option.map_some, Option.map_none, List.map_cons, List.map_nil, List.cons_append, List.nil_append, List.append_nil, List.length_cons, List.length_nil, Nat.reduceAdd, Nat.reduceLT, Nat.reduceSub, if_true, if_false, Nat.zero_add, Nat.add_zero, Nat.sub_zero, Nat.lt_irrefl, Nat.not_lt_zero, Nat.zero_lt_one, Nat.lt_add_one] at hH); subst hF; subst hH; refine ⟨AGX, ?_⟩; refine WN ?_)
      all_goals first
        | (
          exact aret_of (us := [.o 1 0 ((l.map Leg.row).length + 1) cL, .o 2 0 ((cs.map fun z => [I z]).length + 1) c3, .c (I 0)]) [] (fun g => .t [.c (legs_r (g (.o 1 0 ((l.map Leg.row).length + 1) cL)) (splL l i x at_)), .c (ints_r (g (.o 2 0 ((cs.map fun z => [I z]).length + 1) c3)) (splC cs i x)), .c (I 0)]) (fun _ => []) (.tmp rfl (.tmp rfl (.tmp rfl .nil))) (by decide) (ZNK rfl) (fun _ => .tL (.cons (.frz rfl rfl hfL hlL rfl) (.cons (.frz rfl rfl hfI hlI rfl) (.cons (.c rfl) .nil)))) (fun _ => .nil) (fun _ => ⟨_, _, by rw [hv0, if_pos rfl, if_pos rfl, hsr], rfl⟩)
          )
        | (
          exact aret_of (us := [.o 1 0 ((l.map Leg.row).length + 1) cL, .o 3 0 ((cs.map fun z => [I z]).length + 1) c3, .c (I 0)]) [] (fun g => .t [.c (legs_r (g (.o 1 0 ((l.map Leg.row).length + 1) cL)) (splL l i x at_)), .c (ints_r (g (.o 3 0 ((cs.map fun z => [I z]).length + 1) c3)) (splC cs i x)), .c (I 0)]) (fun _ => []) (.tmp rfl (.tmp rfl (.tmp rfl .nil))) (by decide) (ZNK rfl) (fun _ => .tL (.cons (.frz rfl rfl hfL hlL rfl) (.cons (.frz rfl rfl hfI hlI rfl) (.cons (.c rfl) .nil)))) (fun _ => .nil) (fun _ => ⟨_, _, by rw [hv0, if_pos rfl, if_pos rfl, hsr], rfl⟩)
          )
        | (
          exact aret_of (us := [.o 1 0 ((l.map Leg.row).length + 1) cL, .o 4 0 ((cs.map fun z => [I z]).length + 1) c3, .c (I 0)]) [] (fun g => .t [.c (legs_r (g (.o 1 0 ((l.map Leg.row).length + 1) cL)) (splL l i x at_)), .c (ints_r (g (.o 4 0 ((cs.map fun z => [I z]).length + 1) c3)) (splC cs i x)), .c (I 0)]) (fun _ => []) (.tmp rfl (.tmp rfl (.tmp rfl .nil))) (by decide) (ZNK rfl) (fun _ => .tL (.cons (.frz rfl rfl hfL hlL rfl) (.cons (.frz rfl rfl hfI hlI rfl) (.cons (.c rfl) .nil)))) (fun _ => .nil) (fun _ => ⟨_, _, by rw [hv0, if_pos rfl, if_pos rfl, hsr], rfl⟩)
          )
    · have hv : splV l cs i at_ = 1 := by rw [hsp, if_pos (by omega)]
      rcases (by omega : at_ < 1 ∨ (¬ at_ < 1 ∧ x.long ≤ at_)) with ha1 | ⟨ha1, ha2⟩
      · refine WA ?_
        refine aw_cond_t rfl ?_
        refine WA ?_
        exact aret_of (us := [.c (legs_r (.slice none 0 0) []), .c (ints_r (.slice none 0 0) []), .c (I 1)]) [] (fun _ => .t [.c (legs_r (.slice none 0 0) []), .c (ints_r (.slice none 0 0) []), .c (I 1)]) (fun _ => []) (.tmp rfl (.tmp rfl (.tmp rfl .nil))) (by decide) (ZNK rfl) (fun _ => .tL (C0 rfl)) (fun _ => .nil) (fun _ => ⟨_, _, by rw [hv, if_neg (by omega), if_neg (by omega)], rfl⟩)
      · refine WA ?_
        refine aw_cond_t rfl ?_
        refine WA ?_
        exact aret_of (us := [.c (legs_r (.slice none 0 0) []), .c (ints_r (.slice none 0 0) []), .c (I 1)]) [] (fun _ => .t [.c (legs_r (.slice none 0 0) []), .c (ints_r (.slice none 0 0) []), .c (I 1)]) (fun _ => []) (.tmp rfl (.tmp rfl (.tmp rfl .nil))) (by decide) (ZNK rfl) (fun _ => .tL (C0 rfl)) (fun _ => .nil) (fun _ => ⟨_, _, by rw [hv, if_neg (by omega), if_neg (by omega)], rfl⟩)
  · have hv : splV l cs leg at_ = 8 := by rw [splV, if_neg h0, splF, if_pos (by omega)]
    rcases (by omega : leg < 0 ∨ (¬ leg < 0 ∧ (l.length : Int) ≤ leg)) with hl1 | ⟨hl1, hl2⟩
    · refine WA ?_
      refine aw_cond_t rfl ?_
      refine WA ?_
      exact aret_of (us := [.c (legs_r (.slice none 0 0) []), .c (ints_r (.slice none 0 0) []), .c (I 8)]) [] (fun _ => .t [.c (legs_r (.slice none 0 0) []), .c (ints_r (.slice none 0 0) []), .c (I 8)]) (fun _ => []) (.tmp rfl (.tmp rfl (.tmp rfl .nil))) (by decide) (ZNK rfl) (fun _ => .tL (C0 rfl)) (fun _ => .nil) (fun _ => ⟨_, _, by rw [hv, if_neg (by omega), if_neg (by omega)], rfl⟩)
    · refine WA ?_
      refine aw_cond_t rfl ?_
      refine WA ?_
      exact aret_of (us := [.c (legs_r (.slice none 0 0) []), .c (ints_r (.slice none 0 0) []), .c (I 8)]) [] (fun _ => .t [.c (legs_r (.slice none 0 0) []), .c (ints_r (.slice none 0 0) []), .c (I 8)]) (fun _ => []) (.tmp rfl (.tmp rfl (.tmp rfl .nil))) (by decide) (ZNK rfl) (fun _ => .tL (C0 rfl)) (fun _ => .nil) (fun _ => ⟨_, _, by rw [hv, if_neg (by omega), if_neg (by omega)], rfl⟩)
end Go.Proofs.YtdmeohgojdfmoaaGreatDoor

/- The stream, by value: what it gives is a function of its numbers and its counter. -/
namespace Go.Proofs.YtdmeohgojdfmoaaGreatDoor
open Go Go.RowKit
set_option maxRecDepth 100000
/-- What the stream gives next, below n. -/
def nextF (zs : List Int) (a n : Int) : Int := if zs.length = 0 then belowF ((a + 1) * 7919) n else belowF (wrap64 (belowF (zs.getD (a % zs.length).toNat 0) 1073741824 + wrap64 (a / zs.length * wrap64 (7919 + a % zs.length)))) n
theorem next_f (n : Int) (v : Value) (zs : List Int) (a : Int) (hs : StrOk zs) (h0 : 0 ≤ a) (h1 : a ≤ 1000000000) (hn : in64 n) :
    ACalls Tryz.prog 41 [.p 0 0 0, .c (I n)] [strm v zs a] fun u H => ∃ r : Int, u = .c (I r) ∧ H = [strm v zs (a + 1)] ∧ 0 ≤ r ∧ (1 ≤ n → r < n) ∧ r = nextF zs a n := by
  refine acalls_of (N := 64) Tryz.func41 rfl rfl (by simp) fun E hE => ?_
  unfold in64 at hn
  have hl := hs.len
  by_cases he : zs.length = 0
  · have h00 : zs = [] := List.eq_nil_of_length_eq_zero he
    subst h00
    repeat' (first
      | (with_reducible refine aw_seq ?_) | (with_reducible refine aseq_n ?_) | (with_reducible refine aseq_r ?_) | (with_reducible refine ablk_n ?_) | (with_reducible refine ablk_r ?_) | (with_reducible refine ablk_e ?_) | (with_reducible refine ablk_o rfl ?_) | (with_reducible refine aseq_e ?_) | (with_reducible refine aw_skip ?_) | (with_reducible refine aw_block ?_) | (with_reducible refine aw_ret ?_) | (with_reducible refine aw_exit ?_)
      | refine aw_cond_t rfl ?_ | refine aw_cond_f rfl ?_ | refine aw_if_t rfl (by assumption) ?_ | refine aw_if_f rfl (by assumption) ?_ | refine aw_if rfl (fun _ => ?_) (fun _ => ?_) | refine aw_cond rfl (fun _ => ?_) (fun _ => ?_)
      | (refine aw_region (id := 3) ?_
         refine WO ?_
         refine al_ef rfl (ef_call0 false (fun _ => below_a _ _) rfl .fn rfl (by decide) (by kernel_rfl) rfl (fun _g => .cons (.c rfl) (.cons (.c rfl) .nil)) (by simp)) ?_
         rintro _ _ ⟨_, _, _, ⟨rfl, rfl⟩, rfl, rfl⟩
         refine WE ?_)
      | (refine aw_regionT (id := 4) [(0, none), (1, none), (2, none), (3, none), (4, none), (5, none), (6, none), (7, none), (8, none), (9, none), (10, none), (11, none)] hMixed (by kernel_rfl) ?_
         refine WQ ?_)
      | (refine aw_regionT (id := 5) [(0, none), (1, none), (2, none), (3, none), (4, none), (5, none), (6, none), (7, none), (8, none), (9, none), (10, none), (11, none)] hMixed (by kernel_rfl) ?_
         refine WQ ?_)
      | (refine aw_region ?_; refine WE ?_))
    all_goals (refine aret_1 [some 0] _ rfl rfl rfl (by decide) (ZNK rfl) ZCH ?_)
    all_goals (obtain ⟨q1, q2⟩ := belowF_range ((a + 1) * 7919) n hn; exact ⟨_, rfl, rfl, q1, q2, rfl⟩)
  · have hp : 0 < zs.length := by omega
    refine WA ?_
    refine WA ?_
    refine WA ?_
    refine aw_if_f rfl (by simpa using he) ?_
    have e1 : (zs.map fun z => [I z]).length = zs.length := by simp
    have hq : ((zs.map fun z => [I z]).length : Int) = zs.length := by rw [e1]
    have hmod : 0 ≤ a % (zs.length : Int) := Int.emod_nonneg _ (by omega)
    have hmod2 : a % (zs.length : Int) < zs.length := Int.emod_lt_of_pos _ (by omega)
    refine ZZ ?_
    refine aw_regionT [(0, none), (1, none), (2, none), (3, none), (4, none), (5, none), (6, none), (7, none), (8, none), (9, none), (10, none), (11, none)] hMixed (by kernel_rfl) ?_
    refine WQ ?_
    refine ZZ ?_
    refine aw_regionT [(0, none), (1, none), (2, none), (3, none), (4, none), (5, none), (6, none), (7, none), (8, none), (9, none), (10, none), (11, none)] hMixed (by kernel_rfl) ?_
    refine WQ ?_
    obtain ⟨i, hi⟩ : ∃ i : Nat, a % (zs.length : Int) = i := ⟨(a % (zs.length : Int)).toNat, by omega⟩
    have hk : i < zs.length := by omega
    obtain ⟨z, hz0⟩ : ∃ z, zs[i]? = some z := ⟨_, List.getElem?_eq_getElem hk⟩
    have hrow : (zs.map fun z => [I z])[i]? = some [I z] := by rw [List.getElem?_map, hz0]; rfl
    refine ZR ?_
    iterate 5 refine WX1 ?_
    refine ZA (rd_indexq rfl (KE (t := 22) rfl) rfl rfl (i := i) (by rw [e1, show a + 1 - 1 = a from by omega]; exact hi) hrow rfl) ?_
    refine WO ?_
    refine al_ef rfl (ef_call0 false (fun _ => below_a _ _) rfl .fn rfl (by decide) (by kernel_rfl) rfl (fun _g => .cons (.c rfl) (.cons (.c rfl) .nil)) (by simp)) ?_
    rintro _ _ ⟨_, _, _, ⟨rfl, rfl⟩, rfl, rfl⟩
    refine WO ?_
    refine al_ef rfl (ef_call0 false (fun _ => below_a _ _) rfl .fn rfl (by decide) (by kernel_rfl) rfl (fun _g => .cons (.c rfl) (.cons (.c rfl) .nil)) (by simp)) ?_
    rintro _ _ ⟨_, _, _, ⟨rfl, rfl⟩, rfl, rfl⟩
    refine WE ?_
    all_goals (refine aret_1 [some 0] _ rfl rfl rfl (by decide) (ZNK rfl) ZCH ?_)
    all_goals (refine ⟨_, rfl, rfl, (belowF_range _ n hn).1, (belowF_range _ n hn).2, ?_⟩)
    all_goals (have hzd : zs.getD (a % (zs.length : Int)).toNat 0 = z := by rw [hi, Int.toNat_natCast, List.getD, hz0]; rfl)
    all_goals (rw [nextF, if_neg he, hzd, e1, show a + 1 - 1 = a from by omega])
theorem flip_f (n : Int) (v : Value) (zs : List Int) (a : Int) (hs : StrOk zs) (h0 : 0 ≤ a) (h1 : a ≤ 1000000000) (hn : in64 n) :
    ACalls Tryz.prog 64 [.p 0 0 0, .c (I n)] [strm v zs a] fun u H => ∃ b : Bool, u = .c (B b) ∧ H = [strm v zs (a + 1)] ∧ b = decide (nextF zs a n = 0) := by
  unfold in64 at hn
  refine acalls_of (N := 9) Tryz.func64 rfl rfl (by simp) fun E hE => ?_
  repeat' (first
    | (with_reducible refine aw_seq ?_) | (with_reducible refine aseq_n ?_) | (with_reducible refine aseq_r ?_) | (with_reducible refine ablk_n ?_) | (with_reducible refine ablk_r ?_) | (with_reducible refine ablk_e ?_) | (with_reducible refine ablk_o rfl ?_) | (with_reducible refine aseq_e ?_) | (with_reducible refine aw_skip ?_) | (with_reducible refine aw_block ?_) | (with_reducible refine aw_ret ?_) | (with_reducible refine aw_exit ?_)
    | refine aw_cond_t rfl ?_ | refine aw_cond_f rfl ?_ | refine aw_if_t rfl (by assumption) ?_ | refine aw_if_f rfl (by assumption) ?_ | refine aw_if rfl (fun _ => ?_) (fun _ => ?_) | refine aw_cond rfl (fun _ => ?_) (fun _ => ?_)
    | (refine aw_region (id := 1) ?_
       refine WO ?_
       refine al_ef rfl (ef_callm false (fun _ => next_f _ _ _ _ hs (by omega) (by omega) (by simp only [in64]; omega)) rfl .fn rfl (by decide) (by kernel_rfl) rfl rfl (fun _g => .cons (.p rfl) (.cons (.c rfl) .nil)) (fun _g => .cons (.c rfl) (.cons (.c rfl) .nil)) (by simp)) ?_
       rintro F1 H1 ⟨_, _, _, _, ⟨r, rfl, hq, hr1, hr2, hrv⟩, hF, hH⟩
       injection hq with hq1 hq2; subst hq1; subst hq2
       (try simp only [nsl, Nat.reduceAdd, Nat.reduceLT, Nat.reduceSub] at hF); (try simp only [nsl, Nat.reduceAdd, Nat.reduceLT, Nat.reduceSub] at hH); subst hF; subst hH
       refine WE ?_)
    | (refine aw_region ?_; refine WE ?_))
  all_goals (refine aret_1 [some 0] _ rfl rfl rfl (by decide) (ZNK rfl) ZCH ?_)
  all_goals exact ⟨_, rfl, rfl, by rw [← hrv]⟩
def rangeF (zs : List Int) (a lo hi : Int) : Int × Int := if hi < lo then (lo, a) else (lo + nextF zs a (hi - lo + 1), a + 1)
theorem range_f (lo hi : Int) (v : Value) (zs : List Int) (a : Int) (hs : StrOk zs) (h0 : 0 ≤ a) (h1 : a ≤ 1000000000) (h2 : -4000000000000000000 ≤ lo) (h3 : lo ≤ 4000000000000000000) (h4 : -4000000000000000000 ≤ hi) (h5 : hi ≤ 4000000000000000000) :
    ACalls Tryz.prog 20 [.p 0 0 0, .c (I lo), .c (I hi)] [strm v zs a] fun u H => ∃ r a', u = .c (I r) ∧ H = [strm v zs a'] ∧ a ≤ a' ∧ a' ≤ a + 1 ∧ lo ≤ r ∧ (lo ≤ hi → r ≤ hi) ∧ (hi < lo → r = lo) ∧ (r, a') = rangeF zs a lo hi := by
  refine acalls_of (N := 19) Tryz.func20 rfl rfl (by simp) fun E hE => ?_
  repeat' (first
    | (with_reducible refine aw_seq ?_) | (with_reducible refine aseq_n ?_) | (with_reducible refine aseq_r ?_) | (with_reducible refine ablk_n ?_) | (with_reducible refine ablk_r ?_) | (with_reducible refine ablk_e ?_) | (with_reducible refine ablk_o rfl ?_) | (with_reducible refine aseq_e ?_) | (with_reducible refine aw_skip ?_) | (with_reducible refine aw_block ?_) | (with_reducible refine aw_ret ?_) | (with_reducible refine aw_exit ?_)
    | refine aw_cond_t rfl ?_ | refine aw_cond_f rfl ?_ | refine aw_if_t rfl (by assumption) ?_ | refine aw_if_f rfl (by assumption) ?_ | refine aw_if rfl (fun _ => ?_) (fun _ => ?_) | refine aw_cond rfl (fun _ => ?_) (fun _ => ?_)
    | (refine aw_region (id := 3) ?_
       refine WO ?_
       refine al_ef rfl (ef_callm false (fun _ => next_f _ _ _ _ hs (by omega) (by omega) (by simp only [in64]; omega)) rfl .fn rfl (by decide) (by kernel_rfl) rfl rfl (fun _g => .cons (.p rfl) (.cons (.c rfl) .nil)) (fun _g => .cons (.c rfl) (.cons (.c rfl) .nil)) (by simp)) ?_
       rintro F1 H1 ⟨_, _, _, _, ⟨r, rfl, hq, hr1, hr2, hrv⟩, hF, hH⟩
       injection hq with hq1 hq2; subst hq1; subst hq2
       (try simp only [nsl, Nat.reduceAdd, Nat.reduceLT, Nat.reduceSub] at hF); (try simp only [nsl, Nat.reduceAdd, Nat.reduceLT, Nat.reduceSub] at hH); subst hF; subst hH
       refine WE ?_)
    | (refine aw_region ?_; refine WE ?_))
  all_goals (refine aret_1 [some 0] _ rfl rfl rfl (by decide) (ZNK rfl) ZCH ?_)
  all_goals (refine ⟨_, _, rfl, rfl, by omega, by omega, by omega, by omega, by omega, ?_⟩)
  all_goals first | (rw [rangeF, if_pos (by omega)]; done) | (rw [rangeF, if_neg (by omega), ← hrv])
def pickF (zs : List Int) (a : Int) (vals : List Int) : Int := vals.getD (nextF zs a vals.length).toNat 0
theorem pick_f (vals : List Int) (q v : Value) (zs : List Int) (a : Int) (hs : StrOk zs) (h0 : 0 ≤ a) (h1 : a ≤ 1000000000) (hv : vals ≠ []) (hl : vals.length ≤ 1000000) :
    ACalls Tryz.prog 39 [.p 0 0 0, .c (.r q (vals.map fun z => [I z]))] [strm v zs a] fun u H => ∃ r, u = .c (I r) ∧ H = [strm v zs (a + 1)] ∧ r ∈ vals ∧ r = pickF zs a vals := by
  have hp : 0 < vals.length := List.length_pos_iff.2 hv
  have e1 : (vals.map fun z => [I z]).length = vals.length := by simp
  refine acalls_of (N := 12) Tryz.func39 rfl rfl (by simp) fun E hE => ?_
  refine WA ?_
  refine WR ?_
  refine al_ef rfl (ef_callm false (fun _ => next_f _ _ _ _ hs (by omega) (by omega) (by simp only [in64]; omega)) rfl .fn rfl (by decide) (by kernel_rfl) rfl rfl (fun _g => .cons (.p rfl) (.cons (.c rfl) .nil)) (fun _g => .cons (.c rfl) (.cons (.c rfl) .nil)) (by simp)) ?_
  rintro F1 H1 ⟨_, _, _, _, ⟨r, rfl, hq, hr1, hr2, hrv⟩, hF, hH⟩
  injection hq with hq1 hq2; subst hq1; subst hq2
  (try simp only [nsl, Nat.reduceAdd, Nat.reduceLT, Nat.reduceSub] at hF); (try simp only [nsl, Nat.reduceAdd, Nat.reduceLT, Nat.reduceSub] at hH); subst hF; subst hH
  obtain ⟨i, rfl⟩ : ∃ i : Nat, r = i := ⟨r.toNat, by omega⟩
  have hk : i < vals.length := by have := hr2 (by rw [e1]; omega); rw [e1] at this; omega
  obtain ⟨z, hz0⟩ : ∃ z, vals[i]? = some z := ⟨_, List.getElem?_eq_getElem hk⟩
  have hrow : (vals.map fun z => [I z])[i]? = some [I z] := by rw [List.getElem?_map, hz0]; rfl
  refine ZA (rd_indexq rfl (KE (t := 22) rfl) rfl rfl (i := i) rfl hrow rfl) ?_
  refine WE ?_
  refine aret_1 [some 0] _ rfl rfl rfl (by decide) (ZNK rfl) ZCH ?_
  refine ⟨_, rfl, rfl, List.mem_of_getElem? hz0, ?_⟩
  rw [e1] at hrv
  rw [pickF, ← hrv, Int.toNat_natCast, List.getD, hz0]; rfl
def oddF (zs : List Int) (a lo hi : Int) : Int × Int := if nextF zs a 12 = 0 then (pickF zs (a + 1) [lo - 1, hi + 1, lo, hi, -1099511627776, 1099511627776], a + 1 + 1) else rangeF zs (a + 1) lo hi
theorem odd_f (lo hi : Int) (v : Value) (zs : List Int) (a : Int) (hs : StrOk zs) (h0 : 0 ≤ a) (h1 : a ≤ 900000000) (h2 : -4000000000000000000 ≤ lo) (h3 : lo ≤ 4000000000000000000) (h4 : -4000000000000000000 ≤ hi) (h5 : hi ≤ 4000000000000000000) :
    ACalls Tryz.prog 65 [.p 0 0 0, .c (I lo), .c (I hi)] [strm v zs a] fun u H => ∃ r a', u = .c (I r) ∧ H = [strm v zs a'] ∧ a ≤ a' ∧ a' ≤ a + 2 ∧ in64 r ∧ (r, a') = oddF zs a lo hi := by
  refine acalls_of (N := 22) Tryz.func65 rfl rfl (by simp) fun E hE => ?_
  refine WA ?_
  refine WR ?_
  refine al_ef rfl (ef_callm false (fun _ => flip_f 12 _ _ _ hs (by omega) (by omega) (by simp only [in64]; omega)) rfl .fn rfl (by decide) (by kernel_rfl) rfl rfl (fun _g => .cons (.p rfl) (.cons (.c rfl) .nil)) (fun _g => .cons (.c rfl) (.cons (.c rfl) .nil)) (by simp)) ?_
  rintro F1 H1 ⟨_, _, _, _, ⟨bb, rfl, hq, hvbb⟩, hF, hH⟩
  injection hq with hq1 hq2; subst hq1; subst hq2
  (try simp only [nsl, Nat.reduceAdd, Nat.reduceLT, Nat.reduceSub] at hF); (try simp only [nsl, Nat.reduceAdd, Nat.reduceLT, Nat.reduceSub] at hH); subst hF; subst hH
  refine WE ?_
  refine aw_cond rfl (fun hb => ?_) (fun hb => ?_)
  · rw [hb] at hvbb
    have hz := of_decide_eq_true hvbb.symm
    refine WR ?_
    refine al_ef rfl (ef_callm true (fun _ => pick_f [lo - 1, hi + 1, lo, hi, -1099511627776, 1099511627776] _ _ _ _ hs (by omega) (by omega) (by simp) (by simp)) rfl .fn rfl (by decide) (by kernel_rfl) rfl rfl (fun _g => .cons (.p rfl) (.cons (.frz rfl rfl rfl rfl rfl) .nil)) (fun _g => .cons (.c rfl) (.cons (.c rfl) .nil)) (fun _ _ _ _ ⟨_, hu, hH, _⟩ => by rw [hu, hH]; exact ⟨.c (.inl trivial), strm_flat (.inr ⟨0, _, rfl, by simp⟩)⟩)) ?_
    rintro F1 H1 ⟨_, _, _, _, ⟨rr, rfl, hq, hrmrr, hvrr⟩, hF, hH⟩
    injection hq with hq1 hq2; subst hq1; subst hq2
    (try simp only [nsl, Nat.reduceAdd, Nat.reduceLT, Nat.reduceSub] at hF); (try simp only [nsl, Nat.reduceAdd, Nat.reduceLT, Nat.reduceSub] at hH); subst hF; subst hH
    refine WE ?_
    exact aret_1 [some 0] _ rfl rfl rfl (by decide) (ZNK rfl) ZCH ⟨_, _, rfl, rfl, by omega, by omega, by simp only [List.mem_cons, List.not_mem_nil, or_false] at hrmrr; simp only [in64]; omega, by rw [oddF, if_pos hz, ← hvrr]⟩
  · rw [hb] at hvbb
    have hz := of_decide_eq_false hvbb.symm
    refine ZZ ?_
    refine WR ?_
    refine al_ef rfl (ef_callm false (fun _ => range_f lo hi _ _ _ hs (by omega) (by omega) (by omega) (by omega) (by omega) (by omega)) rfl .fn rfl (by decide) (by kernel_rfl) rfl rfl (fun _g => .cons (.p rfl) (.cons (.c rfl) (.cons (.c rfl) .nil))) (fun _g => .cons (.c rfl) (.cons (.c rfl) .nil)) (by simp)) ?_
    rintro F1 H1 ⟨_, _, _, _, ⟨rr, ar, rfl, hq, hr3, hr4, hr1, hr2, hr5, hrv⟩, hF, hH⟩
    injection hq with hq1 hq2; subst hq1; subst hq2
    (try simp only [nsl, Nat.reduceAdd, Nat.reduceLT, Nat.reduceSub] at hF); (try simp only [nsl, Nat.reduceAdd, Nat.reduceLT, Nat.reduceSub] at hH); subst hF; subst hH
    have h64r : in64 rr := by simp only [in64]; omega
    refine WE ?_
    exact aret_1 [some 0] _ rfl rfl rfl (by decide) (ZNK rfl) ZCH ⟨_, _, rfl, rfl, by omega, by omega, h64r, by rw [oddF, if_neg hz, ← hrv]⟩
end Go.Proofs.YtdmeohgojdfmoaaGreatDoor

/- The stream's legs and corners, as functions of its numbers and its counter. -/
namespace Go.Proofs.YtdmeohgojdfmoaaGreatDoor
open Go Go.RowKit
set_option maxRecDepth 100000
def legsN (zs : List Int) (a : Int) (k : Nat) : List Leg := (List.range k).map fun (i : Nat) => ⟨pickF zs (a + 2 * i) [1, 5, 20, 100, 1000], pickF zs (a + 2 * i + 1) [10, 50, 100, 500]⟩
theorem legsN_len (zs : List Int) (a : Int) (k : Nat) : (legsN zs a k).length = k := by simp [legsN]
theorem legsN_next (zs : List Int) (a : Int) (k : Nat) : legsN zs a (k + 1) = legsN zs a k ++ [⟨pickF zs (a + 2 * k) [1, 5, 20, 100, 1000], pickF zs (a + 2 * k + 1) [10, 50, 100, 500]⟩] := by
  simp [legsN, List.range_succ]
def legF (zs : List Int) (a most : Int) : List Leg × Int :=
  if nextF zs ((rangeF zs a 1 most).2 + 2 * (rangeF zs a 1 most).1) 12 = 0 then
    if nextF zs ((rangeF zs a 1 most).2 + 2 * (rangeF zs a 1 most).1 + 1) 3 = 0 then ([], (rangeF zs a 1 most).2 + 2 * (rangeF zs a 1 most).1 + 1 + 1)
    else if nextF zs ((rangeF zs a 1 most).2 + 2 * (rangeF zs a 1 most).1 + 1) 3 = 1 then
      ((legsN zs (rangeF zs a 1 most).2 (rangeF zs a 1 most).1.toNat).set (nextF zs ((rangeF zs a 1 most).2 + 2 * (rangeF zs a 1 most).1 + 1 + 1) (rangeF zs a 1 most).1).toNat
        ⟨(oddF zs ((rangeF zs a 1 most).2 + 2 * (rangeF zs a 1 most).1 + 1 + 1 + 1) 1 200000).1, pickF zs (oddF zs ((rangeF zs a 1 most).2 + 2 * (rangeF zs a 1 most).1 + 1 + 1 + 1) 1 200000).2 [10, 100000]⟩,
        (oddF zs ((rangeF zs a 1 most).2 + 2 * (rangeF zs a 1 most).1 + 1 + 1 + 1) 1 200000).2 + 1)
    else
      ((legsN zs (rangeF zs a 1 most).2 (rangeF zs a 1 most).1.toNat).set (nextF zs ((rangeF zs a 1 most).2 + 2 * (rangeF zs a 1 most).1 + 1 + 1) (rangeF zs a 1 most).1).toNat
        ⟨pickF zs ((rangeF zs a 1 most).2 + 2 * (rangeF zs a 1 most).1 + 1 + 1 + 1) [5, 200000], (oddF zs ((rangeF zs a 1 most).2 + 2 * (rangeF zs a 1 most).1 + 1 + 1 + 1 + 1) 1 100000).1⟩,
        (oddF zs ((rangeF zs a 1 most).2 + 2 * (rangeF zs a 1 most).1 + 1 + 1 + 1 + 1) 1 100000).2)
  else (legsN zs (rangeF zs a 1 most).2 (rangeF zs a 1 most).1.toNat, (rangeF zs a 1 most).2 + 2 * (rangeF zs a 1 most).1 + 1)
theorem leglist_f (most : Int) (v : Value) (zs : List Int) (a : Int) (hs : StrOk zs) (h0 : 0 ≤ a) (h1 : a ≤ 700000000) (hm : 1 ≤ most) (hm2 : most ≤ 1000000) :
    ACalls Tryz.prog 11 [.p 0 0 0, .c (I most)] [strm v zs a] fun u H => ∃ (v' : Value) (l : List Leg) (a' : Int), u = .c (legs_r v' l) ∧ H = [strm v zs a'] ∧ a ≤ a' ∧ a' ≤ a + 2 * most + 10 ∧ l.length ≤ most ∧ (l, a') = legF zs a most := by
  refine acallsx_of false (N := 55) Tryz.func11 rfl rfl (by simp) fun E hE hP => ?_
  refine WA ?_
  refine WA ?_
  refine WR ?_
  refine al_ef rfl (ef_callm false (fun _ => range_f 1 most _ _ _ hs (by omega) (by omega) (by omega) (by omega) (by omega) (by omega)) rfl .fn rfl (by decide) (by kernel_rfl) rfl rfl (fun _g => .cons (.p rfl) (.cons (.c rfl) (.cons (.c rfl) .nil))) (fun _g => .cons (.c rfl) (.cons (.c rfl) .nil)) (by simp)) ?_
  rintro F1 H1 ⟨_, _, _, _, ⟨rr, ar, rfl, hq, hr3, hr4, hr1, hr2, hr5, hrv⟩, hF, hH⟩
  injection hq with hq1 hq2; subst hq1; subst hq2
  (try simp only [nsl, Nat.reduceAdd, Nat.reduceLT, Nat.reduceSub] at hF); (try simp only [nsl, Nat.reduceAdd, Nat.reduceLT, Nat.reduceSub] at hH); subst hF; subst hH
  have h64r : in64 rr := by simp only [in64]; omega
  refine WE ?_
  have g1 : (rangeF zs a 1 most).1 = rr := by rw [← hrv]
  have g2 : (rangeF zs a 1 most).2 = ar := by rw [← hrv]
  obtain ⟨a0, ha0⟩ : ∃ z, z = ar := ⟨_, rfl⟩
  rw [← ha0] at g2
  refine aw_loopw (fun m F H => ∃ (k : Nat) (l : List Leg) (c : Nat) (a' : Int), m + k = rr.toNat ∧ a' = a0 + 2 * k ∧ l = legsN zs a0 k ∧ F = [(0, .p 0 0 0), (5, .o 1 0 l.length c), (8, .c (I rr)), (9, .c (I k))] ∧ H = [strm v zs a', .arr 38 2 c (l.map Leg.row)]) ?_ ?_
  · refine wk_of [some 0, none] (fun _ => [(0, .p 0 0 0), (5, .o 1 0 ([] : List Leg).length 0), (8, .c (I rr)), (9, .c (I (0 : Nat)))]) (fun _ => [strm v zs _, .arr 38 2 0 (([] : List Leg).map Leg.row)]) (by decide) (ZNL hE) ZCF ZCH (fun _ => ?_)
    exact ⟨rr.toNat, 0, [], 0, _, by omega, by omega, rfl, rfl, rfl⟩
  rintro m F H ⟨k, l, c, a', hmk, ha1, hl, rfl, rfl⟩
  have hll : l.length = k := by rw [hl, legsN_len]
  refine WA ?_
  refine aw_if rfl (fun hlt => ?_) (fun hge => ?_)
  · refine WR ?_
    refine al_ef rfl (ef_callm true (fun _ => pick_f [1, 5, 20, 100, 1000] _ _ _ _ hs (by omega) (by omega) (by simp) (by simp)) rfl .fn rfl (by decide) (by kernel_rfl) rfl rfl (fun _g => .cons (.p rfl) (.cons (.frz rfl rfl rfl rfl rfl) .nil)) (fun _g => .cons (.c rfl) (.cons (.c rfl) .nil)) (fun _ _ _ _ ⟨_, hu, hH, _⟩ => by rw [hu, hH]; exact ⟨.c (.inl trivial), strm_flat (.inr ⟨0, _, rfl, by simp⟩)⟩)) ?_
    rintro F1 H1 ⟨_, _, _, _, ⟨x, rfl, hq, hrmx, hvx⟩, hF, hH⟩
    injection hq with hq1 hq2; subst hq1; subst hq2
    (try simp only [nsl, Nat.reduceAdd, Nat.reduceLT, Nat.reduceSub] at hF); (try simp only [nsl, Nat.reduceAdd, Nat.reduceLT, Nat.reduceSub] at hH); subst hF; subst hH
    refine WO ?_
    refine al_ef rfl (ef_callm true (fun _ => pick_f [10, 50, 100, 500] _ _ _ _ hs (by omega) (by omega) (by simp) (by simp)) rfl .fn rfl (by decide) (by kernel_rfl) rfl rfl (fun _g => .cons (.p rfl) (.cons (.frz rfl rfl rfl rfl rfl) .nil)) (fun _g => .cons (.c rfl) (.cons (.c rfl) .nil)) (fun _ _ _ _ ⟨_, hu, hH, _⟩ => by rw [hu, hH]; exact ⟨.c (.inl trivial), strm_flat (.inr ⟨0, _, rfl, by simp⟩)⟩)) ?_
    rintro F1 H1 ⟨_, _, _, _, ⟨y, rfl, hq, hrmy, hvy⟩, hF, hH⟩
    injection hq with hq1 hq2; subst hq1; subst hq2
    (try simp only [nsl, Nat.reduceAdd, Nat.reduceLT, Nat.reduceSub] at hF); (try simp only [nsl, Nat.reduceAdd, Nat.reduceLT, Nat.reduceSub] at hH); subst hF; subst hH
    refine WO ?_
    refine al_ef rfl (Zapp (KA (t := 26) rfl)) ?_
    rintro _ _ ⟨_, cc, hcc, rfl, rfl⟩
    refine WE ?_
    refine WA ?_
    refine wk_of [some 0, some 1] (fun _ => [(0, .p 0 0 0), (5, .o 1 0 (l ++ [(⟨x, y⟩ : Leg)]).length cc), (8, .c (I rr)), (9, .c (I (k + 1 : Nat)))]) (fun _ => _) (by decide) (ZNL hE) ZCF ZCH (fun _ => ?_)
    exact ⟨m - 1, by omega, k + 1, l ++ [⟨x, y⟩], cc, a' + 1 + 1, by omega, by omega, by rw [legsN_next, hl, hvx, hvy, ha1], rfl, by rw [List.map_append]; rfl⟩
  have hkr : (k : Int) = rr := by omega
  have hlr : l = legsN zs (rangeF zs a 1 most).2 (rangeF zs a 1 most).1.toNat := by rw [g1, g2, hl]; congr 1; omega
  have har : a' = (rangeF zs a 1 most).2 + 2 * (rangeF zs a 1 most).1 := by rw [g1, g2]; omega
  have hln : (l.length : Int) = (rangeF zs a 1 most).1 := by rw [g1]; omega
  refine ZZ ?_
  refine WR ?_
  refine al_ef rfl (ef_callm false (fun _ => flip_f 12 _ _ _ hs (by omega) (by omega) (by simp only [in64]; omega)) rfl .fn rfl (by decide) (by kernel_rfl) rfl rfl (fun _g => .cons (.p rfl) (.cons (.c rfl) .nil)) (fun _g => .cons (.c rfl) (.cons (.c rfl) .nil)) (by simp)) ?_
  rintro F1 H1 ⟨_, _, _, _, ⟨bb, rfl, hq, hvbb⟩, hF, hH⟩
  injection hq with hq1 hq2; subst hq1; subst hq2
  (try simp only [nsl, Nat.reduceAdd, Nat.reduceLT, Nat.reduceSub] at hF); (try simp only [nsl, Nat.reduceAdd, Nat.reduceLT, Nat.reduceSub] at hH); subst hF; subst hH
  refine WO ?_
  refine al_nil ?_
  refine aseq_n ?_
  refine aw_cut (fun F H => ∃ (l : List Leg) (c : Nat) (a' : Int), a ≤ a' ∧ a' ≤ a + 2 * most + 10 ∧ l.length ≤ most ∧ (l, a') = legF zs a most ∧ F = [(5, .o 1 0 l.length c)] ∧ H = [strm v zs a', .arr 38 2 c (l.map Leg.row)]) ?_ ?_ wk_aw
  · refine aw_cond rfl (fun hb => ?_) (fun hb => ?_)
    · rw [hb] at hvbb
      have hz := of_decide_eq_true hvbb.symm
      rw [har] at hz
      refine WR ?_
      refine al_ef rfl (ef_callm false (fun _ => next_f 3 _ _ _ hs (by omega) (by omega) (by simp only [in64]; omega)) rfl .fn rfl (by decide) (by kernel_rfl) rfl rfl (fun _g => .cons (.p rfl) (.cons (.c rfl) .nil)) (fun _g => .cons (.c rfl) (.cons (.c rfl) .nil)) (by simp)) ?_
      rintro F1 H1 ⟨_, _, _, _, ⟨r3, rfl, hq, hr31, hr32, hv3⟩, hF, hH⟩
      injection hq with hq1 hq2; subst hq1; subst hq2
      (try simp only [nsl, Nat.reduceAdd, Nat.reduceLT, Nat.reduceSub] at hF); (try simp only [nsl, Nat.reduceAdd, Nat.reduceLT, Nat.reduceSub] at hH); subst hF; subst hH
      refine WE ?_
      rw [har] at hv3
      refine WA ?_
      refine aw_if rfl (fun he => ?_) (fun he => ?_)
      · refine WA ?_
        exact aret_1 [some 0] _ rfl rfl rfl (by decide) (ZNK rfl) ZCH ⟨_, [], _, rfl, rfl, by omega, by omega, by simp; omega, by rw [legF, if_pos hz, if_pos (by omega), har]⟩
      refine ZZ ?_
      refine WA ?_
      refine aw_if rfl (fun he1 => ?_) (fun he1 => ?_)
      · refine WR ?_
        refine al_ef rfl (ef_callm false (fun _ => next_f _ _ _ _ hs (by omega) (by omega) (by simp only [in64]; omega)) rfl .fn rfl (by decide) (by kernel_rfl) rfl rfl (fun _g => .cons (.p rfl) (.cons (.c rfl) .nil)) (fun _g => .cons (.c rfl) (.cons (.c rfl) .nil)) (by simp)) ?_
        rintro F1 H1 ⟨_, _, _, _, ⟨r, rfl, hq, hr1, hr2, hrv⟩, hF, hH⟩
        injection hq with hq1 hq2; subst hq1; subst hq2
        (try simp only [nsl, Nat.reduceAdd, Nat.reduceLT, Nat.reduceSub] at hF); (try simp only [nsl, Nat.reduceAdd, Nat.reduceLT, Nat.reduceSub] at hH); subst hF; subst hH
        obtain ⟨i, rfl⟩ : ∃ i : Nat, r = i := ⟨r.toNat, by omega⟩
        have hk : i < l.length := by have := hr2 (by omega); omega
        obtain ⟨x, hx⟩ : ∃ x, l[i]? = some x := ⟨_, List.getElem?_eq_getElem hk⟩
        have hrow : (l.map Leg.row)[i]? = some [I x.long, I x.limit] := by rw [List.getElem?_map, hx]; rfl
        refine WO ?_
        refine al_ef rfl (ef_callm false (fun _ => odd_f 1 200000 _ _ _ hs (by omega) (by omega) (by omega) (by omega) (by omega) (by omega)) rfl .fn rfl (by decide) (by kernel_rfl) rfl rfl (fun _g => .cons (.p rfl) (.cons (.c rfl) (.cons (.c rfl) .nil))) (fun _g => .cons (.c rfl) (.cons (.c rfl) .nil)) (by simp)) ?_
        rintro F1 H1 ⟨_, _, _, _, ⟨x1, ar, rfl, hq, hr3, hr4, h64x1, hvx1⟩, hF, hH⟩
        injection hq with hq1 hq2; subst hq1; subst hq2
        (try simp only [nsl, Nat.reduceAdd, Nat.reduceLT, Nat.reduceSub] at hF); (try simp only [nsl, Nat.reduceAdd, Nat.reduceLT, Nat.reduceSub] at hH); subst hF; subst hH
        refine WO ?_
        refine al_ef rfl (ef_callm true (fun _ => pick_f [10, 100000] _ _ _ _ hs (by omega) (by omega) (by simp) (by simp)) rfl .fn rfl (by decide) (by kernel_rfl) rfl rfl (fun _g => .cons (.p rfl) (.cons (.frz rfl rfl rfl rfl rfl) .nil)) (fun _g => .cons (.c rfl) (.cons (.c rfl) .nil)) (fun _ _ _ _ ⟨_, hu, hH, _⟩ => by rw [hu, hH]; exact ⟨.c (.inl trivial), strm_flat (.inr ⟨0, _, rfl, by simp⟩)⟩)) ?_
        rintro F1 H1 ⟨_, _, _, _, ⟨y1, rfl, hq, hrmy1, hvy1⟩, hF, hH⟩
        injection hq with hq1 hq2; subst hq1; subst hq2
        (try simp only [nsl, Nat.reduceAdd, Nat.reduceLT, Nat.reduceSub] at hF); (try simp only [nsl, Nat.reduceAdd, Nat.reduceLT, Nat.reduceSub] at hH); subst hF; subst hH
        refine WE ?_
        refine wk_of [some 0, some 1] (fun _ => [(5, .o 1 0 (l.set i (⟨x1, y1⟩ : Leg)).length c)]) (fun _ => _) (by decide) (ZNL hE) ZCF ZCH (fun _ => ?_)
        refine ⟨l.set i ⟨x1, y1⟩, c, ar + 1, by omega, by omega, by simp; omega, ?_, rfl, by simp [List.map_set]⟩
        rw [har] at hvx1 hrv
        rw [hln] at hrv
        rw [legF, if_pos hz, if_neg (by omega), if_pos (by omega), ← hvx1, ← hrv, ← hlr, hvy1, Int.toNat_natCast]
      · refine WR ?_
        refine al_ef rfl (ef_callm false (fun _ => next_f _ _ _ _ hs (by omega) (by omega) (by simp only [in64]; omega)) rfl .fn rfl (by decide) (by kernel_rfl) rfl rfl (fun _g => .cons (.p rfl) (.cons (.c rfl) .nil)) (fun _g => .cons (.c rfl) (.cons (.c rfl) .nil)) (by simp)) ?_
        rintro F1 H1 ⟨_, _, _, _, ⟨r, rfl, hq, hr1, hr2, hrv⟩, hF, hH⟩
        injection hq with hq1 hq2; subst hq1; subst hq2
        (try simp only [nsl, Nat.reduceAdd, Nat.reduceLT, Nat.reduceSub] at hF); (try simp only [nsl, Nat.reduceAdd, Nat.reduceLT, Nat.reduceSub] at hH); subst hF; subst hH
        obtain ⟨i, rfl⟩ : ∃ i : Nat, r = i := ⟨r.toNat, by omega⟩
        have hk : i < l.length := by have := hr2 (by omega); omega
        obtain ⟨x, hx⟩ : ∃ x, l[i]? = some x := ⟨_, List.getElem?_eq_getElem hk⟩
        have hrow : (l.map Leg.row)[i]? = some [I x.long, I x.limit] := by rw [List.getElem?_map, hx]; rfl
        refine WO ?_
        refine al_ef rfl (ef_callm true (fun _ => pick_f [5, 200000] _ _ _ _ hs (by omega) (by omega) (by simp) (by simp)) rfl .fn rfl (by decide) (by kernel_rfl) rfl rfl (fun _g => .cons (.p rfl) (.cons (.frz rfl rfl rfl rfl rfl) .nil)) (fun _g => .cons (.c rfl) (.cons (.c rfl) .nil)) (fun _ _ _ _ ⟨_, hu, hH, _⟩ => by rw [hu, hH]; exact ⟨.c (.inl trivial), strm_flat (.inr ⟨0, _, rfl, by simp⟩)⟩)) ?_
        rintro F1 H1 ⟨_, _, _, _, ⟨x1, rfl, hq, hrmx1, hvx1⟩, hF, hH⟩
        injection hq with hq1 hq2; subst hq1; subst hq2
        (try simp only [nsl, Nat.reduceAdd, Nat.reduceLT, Nat.reduceSub] at hF); (try simp only [nsl, Nat.reduceAdd, Nat.reduceLT, Nat.reduceSub] at hH); subst hF; subst hH
        refine WO ?_
        refine al_ef rfl (ef_callm false (fun _ => odd_f 1 100000 _ _ _ hs (by omega) (by omega) (by omega) (by omega) (by omega) (by omega)) rfl .fn rfl (by decide) (by kernel_rfl) rfl rfl (fun _g => .cons (.p rfl) (.cons (.c rfl) (.cons (.c rfl) .nil))) (fun _g => .cons (.c rfl) (.cons (.c rfl) .nil)) (by simp)) ?_
        rintro F1 H1 ⟨_, _, _, _, ⟨y1, ar, rfl, hq, hr3, hr4, h64y1, hvy1⟩, hF, hH⟩
        injection hq with hq1 hq2; subst hq1; subst hq2
        (try simp only [nsl, Nat.reduceAdd, Nat.reduceLT, Nat.reduceSub] at hF); (try simp only [nsl, Nat.reduceAdd, Nat.reduceLT, Nat.reduceSub] at hH); subst hF; subst hH
        refine WE ?_
        refine wk_of [some 0, some 1] (fun _ => [(5, .o 1 0 (l.set i (⟨x1, y1⟩ : Leg)).length c)]) (fun _ => _) (by decide) (ZNL hE) ZCF ZCH (fun _ => ?_)
        refine ⟨l.set i ⟨x1, y1⟩, c, ar, by omega, by omega, by simp; omega, ?_, rfl, by simp [List.map_set]⟩
        rw [har] at hvx1 hrv hvy1
        rw [hln] at hrv
        rw [legF, if_pos hz, if_neg (by omega), if_neg (by omega), ← hvy1, ← hrv, ← hlr, hvx1, Int.toNat_natCast]
    · rw [hb] at hvbb
      have hz := of_decide_eq_false hvbb.symm
      rw [har] at hz
      refine ZZ ?_
      refine wk_of [some 0, some 1] (fun _ => [(5, .o 1 0 l.length c)]) (fun _ => _) (by decide) (ZNL hE) ZCF ZCH (fun _ => ?_)
      exact ⟨l, c, _, by omega, by omega, by omega, by rw [legF, if_neg hz, ← hlr, har], rfl, rfl⟩
  rintro F H ⟨l, c, a', ha1, ha2, hl, hlf, rfl, rfl⟩
  refine WA ?_
  exact aret_f1 [some 0] [strm v zs a'] rfl rfl rfl rfl (by rw [List.drop_zero, List.take_of_length_le (by simp)]) (by simp) (by decide) (by decide) (ZNK rfl) ZCH (fun v' => ⟨v', l, a', rfl, rfl, ha1, ha2, hl, hlf⟩)
def cornsN (zs : List Int) (a : Int) (k : Nat) : List Int := (List.range k).map fun (i : Nat) => pickF zs (a + i) [0, 10, 50, 200, 1000]
theorem cornsN_len (zs : List Int) (a : Int) (k : Nat) : (cornsN zs a k).length = k := by simp [cornsN]
theorem cornsN_next (zs : List Int) (a : Int) (k : Nat) : cornsN zs a (k + 1) = cornsN zs a k ++ [pickF zs (a + k) [0, 10, 50, 200, 1000]] := by simp [cornsN, List.range_succ]
def cornLF (zs : List Int) (a n : Int) : List Int × Int :=
  if nextF zs (a + (n - 1).toNat) 12 = 0 then
    if 0 < (n - 1).toNat then
      if nextF zs (a + (n - 1).toNat + 1 + 1) 2 = 0 then ((cornsN zs a (n - 1).toNat ++ [pickF zs (a + (n - 1).toNat + 1) [0, -1, 100000, 100001]]).drop 1, a + (n - 1).toNat + 1 + 1 + 1)
      else (cornsN zs a (n - 1).toNat ++ [pickF zs (a + (n - 1).toNat + 1) [0, -1, 100000, 100001]], a + (n - 1).toNat + 1 + 1 + 1)
    else (cornsN zs a (n - 1).toNat ++ [pickF zs (a + (n - 1).toNat + 1) [0, -1, 100000, 100001]], a + (n - 1).toNat + 1 + 1)
  else (cornsN zs a (n - 1).toNat, a + (n - 1).toNat + 1)
theorem cornerlist_f (n : Int) (v : Value) (zs : List Int) (a : Int) (hs : StrOk zs) (h0 : 0 ≤ a) (h1 : a ≤ 700000000) (hn0 : 0 ≤ n) (hn2 : n ≤ 1000000) :
    ACalls Tryz.prog 12 [.p 0 0 0, .c (I n)] [strm v zs a] fun u H => ∃ (v' : Value) (l : List Int) (a' : Int), u = .c (ints_r v' l) ∧ H = [strm v zs a'] ∧ a ≤ a' ∧ a' ≤ a + n + 10 ∧ l.length ≤ n + 1 ∧ (l, a') = cornLF zs a n := by
  refine acallsx_of false (N := 35) Tryz.func12 rfl rfl (by simp) fun E hE hP => ?_
  refine WA ?_
  refine WA ?_
  refine WA ?_
  refine aw_loopw (fun m F H => ∃ (k : Nat) (l : List Int) (c : Nat) (a' : Int), m + k = (n - 1).toNat ∧ a' = a + k ∧ l = cornsN zs a k ∧ F = [(0, .p 0 0 0), (5, .o 1 0 l.length c), (7, .c (I (n - 1))), (8, .c (I k))] ∧ H = [strm v zs a', .arr 3 1 c (l.map fun z => [I z])]) ?_ ?_
  · refine wk_of [some 0, none] (fun _ => [(0, .p 0 0 0), (5, .o 1 0 ([] : List Int).length 0), (7, .c (I (n - 1))), (8, .c (I (0 : Nat)))]) (fun _ => [strm v zs _, .arr 3 1 0 (([] : List Int).map fun z => [I z])]) (by decide) (ZNL hE) ZCF ZCH (fun _ => ?_)
    exact ⟨(n - 1).toNat, 0, [], 0, _, by omega, by simp, rfl, rfl, rfl⟩
  rintro m F H ⟨k, l, c, a', hmk, ha1, hl, rfl, rfl⟩
  have hll : l.length = k := by rw [hl, cornsN_len]
  refine WA ?_
  refine aw_if rfl (fun hlt => ?_) (fun hge => ?_)
  · refine WR ?_
    refine al_ef rfl (ef_callm true (fun _ => pick_f [0, 10, 50, 200, 1000] _ _ _ _ hs (by omega) (by omega) (by simp) (by simp)) rfl .fn rfl (by decide) (by kernel_rfl) rfl rfl (fun _g => .cons (.p rfl) (.cons (.frz rfl rfl rfl rfl rfl) .nil)) (fun _g => .cons (.c rfl) (.cons (.c rfl) .nil)) (fun _ _ _ _ ⟨_, hu, hH, _⟩ => by rw [hu, hH]; exact ⟨.c (.inl trivial), strm_flat (.inr ⟨0, _, rfl, by simp⟩)⟩)) ?_
    rintro F1 H1 ⟨_, _, _, _, ⟨x, rfl, hq, hrmx, hvx⟩, hF, hH⟩
    injection hq with hq1 hq2; subst hq1; subst hq2
    (try simp only [nsl, Nat.reduceAdd, Nat.reduceLT, Nat.reduceSub] at hF); (try simp only [nsl, Nat.reduceAdd, Nat.reduceLT, Nat.reduceSub] at hH); subst hF; subst hH
    refine WO ?_
    refine al_ef rfl (Zapp (KA (t := 22) rfl)) ?_
    rintro _ _ ⟨_, cc, hcc, rfl, rfl⟩
    refine WE ?_
    refine WA ?_
    refine wk_of [some 0, some 1] (fun _ => [(0, .p 0 0 0), (5, .o 1 0 (l ++ [x]).length cc), (7, .c (I (n - 1))), (8, .c (I (k + 1 : Nat)))]) (fun _ => _) (by decide) (ZNL hE) ZCF ZCH (fun _ => ?_)
    exact ⟨m - 1, by omega, k + 1, l ++ [x], cc, a' + 1, by omega, by omega, by rw [cornsN_next, hl, hvx, ha1], rfl, by rw [List.map_append]; rfl⟩
  have hk : k = (n - 1).toNat := by omega
  have hlk : l = cornsN zs a (n - 1).toNat := by rw [hl, hk]
  have hak : a' = a + (n - 1).toNat := by rw [ha1, hk]
  refine ZZ ?_
  refine WR ?_
  refine al_ef rfl (ef_callm false (fun _ => flip_f 12 _ _ _ hs (by omega) (by omega) (by simp only [in64]; omega)) rfl .fn rfl (by decide) (by kernel_rfl) rfl rfl (fun _g => .cons (.p rfl) (.cons (.c rfl) .nil)) (fun _g => .cons (.c rfl) (.cons (.c rfl) .nil)) (by simp)) ?_
  rintro F1 H1 ⟨_, _, _, _, ⟨bb, rfl, hq, hvbb⟩, hF, hH⟩
  injection hq with hq1 hq2; subst hq1; subst hq2
  (try simp only [nsl, Nat.reduceAdd, Nat.reduceLT, Nat.reduceSub] at hF); (try simp only [nsl, Nat.reduceAdd, Nat.reduceLT, Nat.reduceSub] at hH); subst hF; subst hH
  refine WO ?_
  refine al_nil ?_
  refine aseq_n ?_
  refine aw_cut (fun F H => ∃ (l : List Int) (b k c c' : Nat) (rows : List (List CV)) (a' : Int), a ≤ a' ∧ a' ≤ a + n + 10 ∧ l.length ≤ n + 1 ∧ (l, a') = cornLF zs a n ∧ (rows.drop k).take l.length = l.map (fun z => [I z]) ∧ F = [(5, .o 1 k l.length c')] ∧ H = [strm v zs a', .arr 3 1 c rows]) ?_ ?_ wk_aw
  · refine aw_cond rfl (fun hb => ?_) (fun hb => ?_)
    · rw [hb] at hvbb
      have hz := of_decide_eq_true hvbb.symm
      rw [hak] at hz
      refine WR ?_
      refine al_ef rfl (ef_callm true (fun _ => pick_f [0, -1, 100000, 100001] _ _ _ _ hs (by omega) (by omega) (by simp) (by simp)) rfl .fn rfl (by decide) (by kernel_rfl) rfl rfl (fun _g => .cons (.p rfl) (.cons (.frz rfl rfl rfl rfl rfl) .nil)) (fun _g => .cons (.c rfl) (.cons (.c rfl) .nil)) (fun _ _ _ _ ⟨_, hu, hH, _⟩ => by rw [hu, hH]; exact ⟨.c (.inl trivial), strm_flat (.inr ⟨0, _, rfl, by simp⟩)⟩)) ?_
      rintro F1 H1 ⟨_, _, _, _, ⟨x, rfl, hq, hrmx, hvx⟩, hF, hH⟩
      injection hq with hq1 hq2; subst hq1; subst hq2
      (try simp only [nsl, Nat.reduceAdd, Nat.reduceLT, Nat.reduceSub] at hF); (try simp only [nsl, Nat.reduceAdd, Nat.reduceLT, Nat.reduceSub] at hH); subst hF; subst hH
      refine WO ?_
      refine al_ef rfl (Zapp (KA (t := 22) rfl)) ?_
      rintro _ _ ⟨_, cc, hcc, rfl, rfl⟩
      refine WE ?_
      rw [hak] at hvx
      by_cases hlen : 0 < l.length
      · refine WR ?_
        first | refine ZS ?_ | (refine G1 rfl ?_; refine al_ef rfl (ef_callm false (fun _ => flip_f 2 _ _ _ hs (by omega) (by omega) (by simp only [in64]; omega)) rfl .fn rfl (by decide) (by kernel_rfl) rfl rfl (fun _g => .cons (.p rfl) (.cons (.c rfl) .nil)) (fun _g => .cons (.c rfl) (.cons (.c rfl) .nil)) (by simp)) ?_; rintro F1 H1 ⟨_, _, _, _, ⟨b2, rfl, hq, hvb2⟩, hF, hH⟩; injection hq with hq1 hq2; subst hq1; subst hq2; (try simp only [nsl, Nat.reduceAdd, Nat.reduceLT, Nat.reduceSub] at hF); (try simp only [nsl, Nat.reduceAdd, Nat.reduceLT, Nat.reduceSub] at hH); subst hF; subst hH) | skip
        refine WE ?_
        rw [hak] at hvb2
        refine aw_cond rfl (fun hb2 => ?_) (fun hb2 => ?_)
        · rw [hb2] at hvb2
          have hz2 := of_decide_eq_true hvb2.symm
          refine ZR ?_
          refine WX1 ?_
          refine ZA (rd_slice (l := 1) rfl (KE (t := 22) rfl) rfl rfl (.inr ⟨_, _, _, rfl, rfl, rfl⟩) (.inl ⟨rfl, rfl⟩) (by omega) (by omega) (by omega)) ?_
          refine WE ?_
          refine wk_of [some 0, some 1] (fun _ => [(5, .o 1 1 ((l ++ [x]).drop 1).length (cc - 1))]) (fun _ => _) (by decide) (ZNL hE) ZCF ZCH (fun _ => ?_)
          exact ⟨(l ++ [x]).drop 1, 1, 1, cc, cc - 1, _, a' + 1 + 1 + 1, by omega, by omega, by simp; omega, by rw [cornLF, if_pos hz, if_pos (by omega), if_pos hz2, ← hvx, ← hlk, hak], by rw [List.map_drop, List.map_append, List.take_of_length_le (by simp)]; rfl, rfl, rfl⟩
        · rw [hb2] at hvb2
          have hz2 := of_decide_eq_false hvb2.symm
          refine ZZ ?_
          refine wk_of [some 0, some 1] (fun _ => [(5, .o 1 0 (l ++ [x]).length cc)]) (fun _ => _) (by decide) (ZNL hE) ZCF ZCH (fun _ => ?_)
          exact ⟨l ++ [x], 1, 0, cc, cc, _, a' + 1 + 1 + 1, by omega, by omega, by simp; omega, by rw [cornLF, if_pos hz, if_pos (by omega), if_neg hz2, ← hvx, ← hlk, hak], by rw [List.drop_zero, List.map_append, List.take_of_length_le (by simp)]; rfl, rfl, rfl⟩
      · refine WR ?_
        first | refine ZS ?_ | (refine G1 rfl ?_; refine al_ef rfl (ef_callm false (fun _ => flip_f 2 _ _ _ hs (by omega) (by omega) (by simp only [in64]; omega)) rfl .fn rfl (by decide) (by kernel_rfl) rfl rfl (fun _g => .cons (.p rfl) (.cons (.c rfl) .nil)) (fun _g => .cons (.c rfl) (.cons (.c rfl) .nil)) (by simp)) ?_; rintro F1 H1 ⟨_, _, _, _, ⟨b2, rfl, hq, hvb2⟩, hF, hH⟩; injection hq with hq1 hq2; subst hq1; subst hq2; (try simp only [nsl, Nat.reduceAdd, Nat.reduceLT, Nat.reduceSub] at hF); (try simp only [nsl, Nat.reduceAdd, Nat.reduceLT, Nat.reduceSub] at hH); subst hF; subst hH) | skip
        refine WE ?_
        refine aw_cond_f rfl ?_
        refine ZZ ?_
        refine wk_of [some 0, some 1] (fun _ => [(5, .o 1 0 (l ++ [x]).length cc)]) (fun _ => _) (by decide) (ZNL hE) ZCF ZCH (fun _ => ?_)
        exact ⟨l ++ [x], 1, 0, cc, cc, _, a' + 1 + 1, by omega, by omega, by simp; omega, by rw [cornLF, if_pos hz, if_neg (by omega), ← hvx, ← hlk, hak], by rw [List.drop_zero, List.map_append, List.take_of_length_le (by simp)]; rfl, rfl, rfl⟩
    · rw [hb] at hvbb
      have hz := of_decide_eq_false hvbb.symm
      rw [hak] at hz
      refine ZZ ?_
      refine wk_of [some 0, some 1] (fun _ => [(5, .o 1 0 l.length c)]) (fun _ => _) (by decide) (ZNL hE) ZCF ZCH (fun _ => ?_)
      exact ⟨l, 1, 0, c, c, _, a' + 1, by omega, by omega, by omega, by rw [cornLF, if_neg hz, ← hlk, hak], by rw [List.drop_zero, List.take_of_length_le (by simp)], rfl, rfl⟩
  rintro F H ⟨l, b, k, c, c', rows, a', ha1, ha2, hl, hlf, hrows, rfl, rfl⟩
  refine WA ?_
  exact aret_f1 [some 0] [strm v zs a'] rfl rfl rfl rfl hrows (by simp) (by decide) (by decide) (ZNK rfl) ZCH (fun v' => ⟨v', l, a', rfl, rfl, ha1, ha2, hl, hlf⟩)
end Go.Proofs.YtdmeohgojdfmoaaGreatDoor

/- The stream's paths of a head, as a function of its numbers and its counter. -/
namespace Go.Proofs.YtdmeohgojdfmoaaGreatDoor
open Go Go.RowKit
set_option maxRecDepth 100000
def posN (zs : List Int) (a : Int) : Nat → Int × Int
  | 0 => (0, 0)
  | k + 1 => (wrap64 ((posN zs a k).1 + pickF zs (a + 2 * k) [0, 10, -10, 30, 5]), wrap64 ((posN zs a k).2 + pickF zs (a + 2 * k + 1) [0, 0, 10, -10, 25]))
def ptsN (zs : List Int) (a : Int) (k : Nat) : List Pt := (List.range k).map fun i => ⟨(posN zs a i).1, (posN zs a i).2⟩
theorem ptsN_len (zs : List Int) (a : Int) (k : Nat) : (ptsN zs a k).length = k := by simp [ptsN]
theorem ptsN_next (zs : List Int) (a : Int) (k : Nat) : ptsN zs a (k + 1) = ptsN zs a k ++ [⟨(posN zs a k).1, (posN zs a k).2⟩] := by simp [ptsN, List.range_succ]
def ahead1 (zs : List Int) (a : Int) : List Pt × Int :=
  if nextF zs ((rangeF zs (a + 1) 1 6).2 + 2 * (rangeF zs (a + 1) 1 6).1) 15 = 0 then
    ((ptsN zs (rangeF zs (a + 1) 1 6).2 (rangeF zs (a + 1) 1 6).1.toNat).set (nextF zs ((rangeF zs (a + 1) 1 6).2 + 2 * (rangeF zs (a + 1) 1 6).1 + 1) (rangeF zs (a + 1) 1 6).1).toNat
      ⟨pickF zs ((rangeF zs (a + 1) 1 6).2 + 2 * (rangeF zs (a + 1) 1 6).1 + 1 + 1) [100000, 100001, -9223372036854775808], ((ptsN zs (rangeF zs (a + 1) 1 6).2 (rangeF zs (a + 1) 1 6).1.toNat).getD (nextF zs ((rangeF zs (a + 1) 1 6).2 + 2 * (rangeF zs (a + 1) 1 6).1 + 1) (rangeF zs (a + 1) 1 6).1).toNat ⟨0, 0⟩).y⟩,
      (rangeF zs (a + 1) 1 6).2 + 2 * (rangeF zs (a + 1) 1 6).1 + 1 + 1 + 1)
  else (ptsN zs (rangeF zs (a + 1) 1 6).2 (rangeF zs (a + 1) 1 6).1.toNat, (rangeF zs (a + 1) 1 6).2 + 2 * (rangeF zs (a + 1) 1 6).1 + 1)
/-- Points, whether closed, the counter behind. -/
def aheadF (zs : List Int) (a : Int) : List Pt × Bool × Int :=
  if nextF zs (ahead1 zs a).2 40 = 0 then (List.replicate (pickF zs ((ahead1 zs a).2 + 1) [0, 1, 3, 500, 501]).toNat ⟨0, 0⟩, decide (nextF zs a 4 = 0), (ahead1 zs a).2 + 1 + 1)
  else ((ahead1 zs a).1, decide (nextF zs a 4 = 0), (ahead1 zs a).2 + 1)
theorem ahead_f (v : Value) (zs : List Int) (a : Int) (hs : StrOk zs) (h0 : 0 ≤ a) (h1 : a ≤ 700000000) :
    ACalls Tryz.prog 60 [.p 0 0 0] [strm v zs a] fun u H => ∃ (v' : Value) (l : List Pt) (b : Bool) (a' : Int), u = pth v' l b ∧ H = [strm v zs a'] ∧ a ≤ a' ∧ a' ≤ a + 40 ∧ l.length ≤ 1000 ∧ (l, b, a') = aheadF zs a := by
  refine acalls_of (N := 57) Tryz.func60 rfl rfl (by simp) fun E hE => ?_
  refine WA ?_
  refine WR ?_
  refine al_ef rfl (ef_callm false (fun _ => flip_f 4 _ _ _ hs (by omega) (by omega) (by simp only [in64]; omega)) rfl .fn rfl (by decide) (by kernel_rfl) rfl rfl (fun _g => .cons (.p rfl) (.cons (.c rfl) .nil)) (fun _g => .cons (.c rfl) (.cons (.c rfl) .nil)) (by simp)) ?_
  rintro F1 H1 ⟨_, _, _, _, ⟨bb, rfl, hq, hvbb⟩, hF, hH⟩
  injection hq with hq1 hq2; subst hq1; subst hq2
  (try simp only [nsl, Nat.reduceAdd, Nat.reduceLT, Nat.reduceSub] at hF); (try simp only [nsl, Nat.reduceAdd, Nat.reduceLT, Nat.reduceSub] at hH); subst hF; subst hH
  refine WE ?_
  refine WA ?_
  refine WR ?_
  refine al_ef rfl (ef_callm false (fun _ => range_f 1 6 _ _ _ hs (by omega) (by omega) (by omega) (by omega) (by omega) (by omega)) rfl .fn rfl (by decide) (by kernel_rfl) rfl rfl (fun _g => .cons (.p rfl) (.cons (.c rfl) (.cons (.c rfl) .nil))) (fun _g => .cons (.c rfl) (.cons (.c rfl) .nil)) (by simp)) ?_
  rintro F1 H1 ⟨_, _, _, _, ⟨rr, ar, rfl, hq, hr3, hr4, hr1, hr2, hr5, hrv⟩, hF, hH⟩
  injection hq with hq1 hq2; subst hq1; subst hq2
  (try simp only [nsl, Nat.reduceAdd, Nat.reduceLT, Nat.reduceSub] at hF); (try simp only [nsl, Nat.reduceAdd, Nat.reduceLT, Nat.reduceSub] at hH); subst hF; subst hH
  have h64r : in64 rr := by simp only [in64]; omega
  refine WE ?_
  have g1 : (rangeF zs (a + 1) 1 6).1 = rr := by rw [← hrv]
  have g2 : (rangeF zs (a + 1) 1 6).2 = ar := by rw [← hrv]
  obtain ⟨a0, ha0⟩ : ∃ z, z = ar := ⟨_, rfl⟩
  rw [← ha0] at g2
  refine aw_loopw (fun m F H => ∃ (k c : Nat) (l : List Pt) (x y a' : Int), m + k = rr.toNat ∧ a' = a0 + 2 * k ∧ l = ptsN zs a0 k ∧ (x, y) = posN zs a0 k ∧ F = [(0, .p 0 0 0), (2, .p 1 0 0), (3, .p 2 0 0), (4, .p 3 0 0), (10, .c (I rr)), (11, .c (I k))] ∧ H = [strm v zs a', .box [.c (.r (.slice none 0 0) []), .c (B false)], .box [.o 4 0 l.length c, .c (B bb)], .box [.c (I x), .c (I y)], .arr 90 2 c (l.map Pt.row)]) ?_ ?_
  · refine wk_of [some 0, some 1, some 2, some 3, none] (fun _ => [(0, .p 0 0 0), (2, .p 1 0 0), (3, .p 2 0 0), (4, .p 3 0 0), (10, .c (I rr)), (11, .c (I (0 : Nat)))]) (fun _ => [strm v zs _, .box [.c (.r (.slice none 0 0) []), .c (B false)], .box [.o 4 0 ([] : List Pt).length 0, .c (B bb)], .box [.c (I 0), .c (I 0)], .arr 90 2 0 (([] : List Pt).map Pt.row)]) (by decide) (ZNL hE) ZCF ZCH (fun _ => ?_)
    exact ⟨rr.toNat, 0, 0, [], 0, 0, _, by omega, by omega, rfl, rfl, rfl, rfl⟩
  rintro m F H ⟨k, c, l, x, y, a', hmk, ha1, hpl, hxy, rfl, rfl⟩
  have hl : l.length = k := by rw [hpl, ptsN_len]
  refine WA ?_
  refine aw_if rfl (fun hlt => ?_) (fun hge => ?_)
  · refine WR ?_
    refine al_ef rfl (Zapp (KA (t := 85) rfl)) ?_
    rintro _ _ ⟨_, cc, hcc, rfl, rfl⟩
    refine WE ?_
    refine aw_cutq (fun F H => ∃ x' y' a2 : Int, a2 = a' + 2 ∧ (x', y') = posN zs a0 (k + 1) ∧ F = [(0, .p 0 0 0), (2, .p 1 0 0), (3, .p 2 0 0), (4, .p 3 0 0), (10, .c (I rr)), (11, .c (I k))] ∧ H = [strm v zs a2, .box [.c (.r (.slice none 0 0) []), .c (B false)], .box [.o 4 0 (l ++ [(⟨x, y⟩ : Pt)]).length cc, .c (B bb)], .box [.c (I x'), .c (I y')], .arr 90 2 cc ((l ++ [(⟨x, y⟩ : Pt)]).map Pt.row)]) ?_ ?_ wk_aw
    · refine ZZ ?_
      refine aw_regionM [[(0, none), (1, none), (2, none), (6, none), (7, none), (8, none), (3, some [0, 1, 2, 6, 7, 8]), (4, some [0, 1, 6, 7, 8]), (5, none), (9, some [0, 1, 2, 6, 7, 8, 5]), (10, some [0, 1, 6, 7, 5]), (11, none), (12, none), (13, some [])], [(0, none), (1, none), (2, none), (6, none), (7, none), (8, none), (3, some [0, 1, 2, 6, 7, 8]), (9, some [0, 1, 2, 6, 7, 8]), (4, some [0, 1, 6, 7, 8]), (5, none), (10, some [0, 1, 6, 7, 5]), (11, none), (12, none), (13, some [])], [(0, none), (1, none), (2, none), (6, none), (7, none), (8, none), (9, some [0, 1, 2, 6, 7, 8]), (3, some [0, 1, 2, 6, 7, 8]), (4, some [0, 1, 6, 7, 8]), (5, none), (10, some [0, 1, 6, 7, 5]), (11, none), (12, none), (13, some [])]] hMixed (by kernel_rfl) ?_
      focus
        refine WM ?_
        refine am_two (by rfl) (by rfl) (by rfl) ?_ ?_
        rotate_left
        refine WM ?_
        refine am_ef (i := 4) (by rfl) (by rfl) rfl rfl (ef_callm true (fun _ => pick_f [0, 10, -10, 30, 5] _ _ _ _ hs (by omega) (by omega) (by simp) (by simp)) rfl .fn rfl (by decide) (by kernel_rfl) rfl rfl (fun _g => .cons (.p rfl) (.cons (.frz rfl rfl rfl rfl rfl) .nil)) (fun _g => .cons (.c rfl) (.cons (.c rfl) .nil)) (fun _ _ _ _ ⟨_, hu, hH, _⟩ => by rw [hu, hH]; exact ⟨.c (.inl trivial), strm_flat (.inr ⟨0, _, rfl, by simp⟩)⟩)) ?_
        rintro F1 H1 ⟨_, _, _, _, ⟨p, rfl, hq, hrmp, hvp⟩, hF, hH⟩
        injection hq with hq1 hq2; subst hq1; subst hq2
        (try simp only [nsl, Nat.reduceAdd, Nat.reduceLT, Nat.reduceSub] at hF); (try simp only [nsl, Nat.reduceAdd, Nat.reduceLT, Nat.reduceSub] at hH); subst hF; subst hH
        refine ⟨AGX, ?_⟩
        refine WM ?_
        refine am_ef (i := 10) (by rfl) (by rfl) rfl rfl (ef_callm true (fun _ => pick_f [0, 0, 10, -10, 25] _ _ _ _ hs (by omega) (by omega) (by simp) (by simp)) rfl .fn rfl (by decide) (by kernel_rfl) rfl rfl (fun _g => .cons (.p rfl) (.cons (.frz rfl rfl rfl rfl rfl) .nil)) (fun _g => .cons (.c rfl) (.cons (.c rfl) .nil)) (fun _ _ _ _ ⟨_, hu, hH, _⟩ => by rw [hu, hH]; exact ⟨.c (.inl trivial), strm_flat (.inr ⟨0, _, rfl, by simp⟩)⟩)) ?_
        rintro F1 H1 ⟨_, _, _, _, ⟨q, rfl, hq, hrmq, hvq⟩, hF, hH⟩
        injection hq with hq1 hq2; subst hq1; subst hq2
        (try simp only [nsl, Nat.reduceAdd, Nat.reduceLT, Nat.reduceSub] at hF); (try simp only [nsl, Nat.reduceAdd, Nat.reduceLT, Nat.reduceSub] at hH); subst hF; subst hH
        refine ⟨AGX, ?_⟩
        refine WN ?_
        rotate_right
        refine WM ?_
        refine am_two (by rfl) (by rfl) (by rfl) ?_ ?_
        rotate_left
        refine WM ?_
        refine am_ef (i := 4) (by rfl) (by rfl) rfl rfl (ef_callm true (fun _ => pick_f [0, 10, -10, 30, 5] _ _ _ _ hs (by omega) (by omega) (by simp) (by simp)) rfl .fn rfl (by decide) (by kernel_rfl) rfl rfl (fun _g => .cons (.p rfl) (.cons (.frz rfl rfl rfl rfl rfl) .nil)) (fun _g => .cons (.c rfl) (.cons (.c rfl) .nil)) (fun _ _ _ _ ⟨_, hu, hH, _⟩ => by rw [hu, hH]; exact ⟨.c (.inl trivial), strm_flat (.inr ⟨0, _, rfl, by simp⟩)⟩)) ?_
        rintro F1 H1 ⟨_, _, _, _, ⟨p, rfl, hq, hrmp, hvp⟩, hF, hH⟩
        injection hq with hq1 hq2; subst hq1; subst hq2
        (try simp only [nsl, Nat.reduceAdd, Nat.reduceLT, Nat.reduceSub] at hF); (try simp only [nsl, Nat.reduceAdd, Nat.reduceLT, Nat.reduceSub] at hH); subst hF; subst hH
        refine ⟨AGX, ?_⟩
        refine WM ?_
        refine am_ef (i := 10) (by rfl) (by rfl) rfl rfl (ef_callm true (fun _ => pick_f [0, 0, 10, -10, 25] _ _ _ _ hs (by omega) (by omega) (by simp) (by simp)) rfl .fn rfl (by decide) (by kernel_rfl) rfl rfl (fun _g => .cons (.p rfl) (.cons (.frz rfl rfl rfl rfl rfl) .nil)) (fun _g => .cons (.c rfl) (.cons (.c rfl) .nil)) (fun _ _ _ _ ⟨_, hu, hH, _⟩ => by rw [hu, hH]; exact ⟨.c (.inl trivial), strm_flat (.inr ⟨0, _, rfl, by simp⟩)⟩)) ?_
        rintro F1 H1 ⟨_, _, _, _, ⟨q, rfl, hq, hrmq, hvq⟩, hF, hH⟩
        injection hq with hq1 hq2; subst hq1; subst hq2
        (try simp only [nsl, Nat.reduceAdd, Nat.reduceLT, Nat.reduceSub] at hF); (try simp only [nsl, Nat.reduceAdd, Nat.reduceLT, Nat.reduceSub] at hH); subst hF; subst hH
        refine ⟨AGX, ?_⟩
        refine WN ?_
        rotate_right
        refine am_ef (i := 4) (by rfl) (by rfl) rfl rfl (ef_callm true (fun _ => pick_f [0, 10, -10, 30, 5] _ _ _ _ hs (by omega) (by omega) (by simp) (by simp)) rfl .fn rfl (by decide) (by kernel_rfl) rfl rfl (fun _g => .cons (.p rfl) (.cons (.frz rfl rfl rfl rfl rfl) .nil)) (fun _g => .cons (.c rfl) (.cons (.c rfl) .nil)) (fun _ _ _ _ ⟨_, hu, hH, _⟩ => by rw [hu, hH]; exact ⟨.c (.inl trivial), strm_flat (.inr ⟨0, _, rfl, by simp⟩)⟩)) ?_
        rintro F1 H1 ⟨_, _, _, _, ⟨p, rfl, hq, hrmp, hvp⟩, hF, hH⟩
        injection hq with hq1 hq2; subst hq1; subst hq2
        (try simp only [nsl, Nat.reduceAdd, Nat.reduceLT, Nat.reduceSub] at hF); (try simp only [nsl, Nat.reduceAdd, Nat.reduceLT, Nat.reduceSub] at hH); subst hF; subst hH
        refine ⟨AGX, ?_⟩
        refine WM ?_
        refine am_ef (i := 10) (by rfl) (by rfl) rfl rfl (ef_callm true (fun _ => pick_f [0, 0, 10, -10, 25] _ _ _ _ hs (by omega) (by omega) (by simp) (by simp)) rfl .fn rfl (by decide) (by kernel_rfl) rfl rfl (fun _g => .cons (.p rfl) (.cons (.frz rfl rfl rfl rfl rfl) .nil)) (fun _g => .cons (.c rfl) (.cons (.c rfl) .nil)) (fun _ _ _ _ ⟨_, hu, hH, _⟩ => by rw [hu, hH]; exact ⟨.c (.inl trivial), strm_flat (.inr ⟨0, _, rfl, by simp⟩)⟩)) ?_
        rintro F1 H1 ⟨_, _, _, _, ⟨q, rfl, hq, hrmq, hvq⟩, hF, hH⟩
        injection hq with hq1 hq2; subst hq1; subst hq2
        (try simp only [nsl, Nat.reduceAdd, Nat.reduceLT, Nat.reduceSub] at hF); (try simp only [nsl, Nat.reduceAdd, Nat.reduceLT, Nat.reduceSub] at hH); subst hF; subst hH
        refine ⟨AGX, ?_⟩
        refine WN ?_
      all_goals refine wk_of [some 0, some 1, some 2, some 3, some 4] (fun _ => [(0, .p 0 0 0), (2, .p 1 0 0), (3, .p 2 0 0), (4, .p 3 0 0), (10, .c (I rr)), (11, .c (I k))]) (fun _ => [strm v zs _, .box [.c (.r (.slice none 0 0) []), .c (B false)], .box [.o 4 0 (l ++ [(⟨x, y⟩ : Pt)]).length cc, .c (B bb)], .box [.c (I _), .c (I _)], .arr 90 2 cc ((l ++ [(⟨x, y⟩ : Pt)]).map Pt.row)]) (by decide) (ZNL hE) ZCF ZCH (fun _ => ?_)
      all_goals exact ⟨_, _, a' + 1 + 1, by omega, by rw [posN, ← hxy, hvp, hvq, ha1], rfl, rfl⟩
    rintro F H ⟨x', y', a2, hx1, hx2, rfl, rfl⟩
    refine WA ?_
    refine wk_of [some 0, some 1, some 2, some 3, some 4] (fun _ => [(0, .p 0 0 0), (2, .p 1 0 0), (3, .p 2 0 0), (4, .p 3 0 0), (10, .c (I rr)), (11, .c (I (k + 1 : Nat)))]) (fun _ => [strm v zs _, .box [.c (.r (.slice none 0 0) []), .c (B false)], .box [.o 4 0 (l ++ [(⟨x, y⟩ : Pt)]).length cc, .c (B bb)], .box [.c (I _), .c (I _)], .arr 90 2 cc ((l ++ [(⟨x, y⟩ : Pt)]).map Pt.row)]) (by decide) (ZNL hE) ZCF ZCH (fun _ => ?_)
    exact ⟨m - 1, by omega, k + 1, cc, l ++ [⟨x, y⟩], x', y', a2, by omega, by omega, by rw [ptsN_next, ← hxy, hpl], hx2, rfl, rfl⟩
  have hlr : l = ptsN zs (rangeF zs (a + 1) 1 6).2 (rangeF zs (a + 1) 1 6).1.toNat := by rw [g1, g2, hpl]; congr 1; omega
  have har : a' = (rangeF zs (a + 1) 1 6).2 + 2 * (rangeF zs (a + 1) 1 6).1 := by rw [g1, g2]; omega
  have hln : (l.length : Int) = (rangeF zs (a + 1) 1 6).1 := by rw [g1]; omega
  refine ZZ ?_
  refine WR ?_
  refine al_ef rfl (ef_callm false (fun _ => flip_f 15 _ _ _ hs (by omega) (by omega) (by simp only [in64]; omega)) rfl .fn rfl (by decide) (by kernel_rfl) rfl rfl (fun _g => .cons (.p rfl) (.cons (.c rfl) .nil)) (fun _g => .cons (.c rfl) (.cons (.c rfl) .nil)) (by simp)) ?_
  rintro F1 H1 ⟨_, _, _, _, ⟨b2, rfl, hq, hvb2⟩, hF, hH⟩
  injection hq with hq1 hq2; subst hq1; subst hq2
  (try simp only [nsl, Nat.reduceAdd, Nat.reduceLT, Nat.reduceSub] at hF); (try simp only [nsl, Nat.reduceAdd, Nat.reduceLT, Nat.reduceSub] at hH); subst hF; subst hH
  refine WO ?_
  refine al_nil ?_
  refine aseq_n ?_
  refine aw_cut (fun F H => ∃ (l : List Pt) (c : Nat) (a' : Int), a ≤ a' ∧ a' ≤ a + 25 ∧ l.length ≤ 1000 ∧ (l, a') = ahead1 zs a ∧ F = [(0, .p 0 0 0), (2, .p 1 0 0), (3, .p 2 0 0)] ∧ H = [strm v zs a', .box [.c (.r (.slice none 0 0) []), .c (B false)], .box [.o 3 0 l.length c, .c (B bb)], .arr 90 2 c (l.map Pt.row)]) ?_ ?_ wk_aw
  · refine aw_cond rfl (fun hb => ?_) (fun hb => ?_)
    · rw [hb] at hvb2
      have hz := of_decide_eq_true hvb2.symm
      rw [har] at hz
      refine ZZ ?_
      refine aw_regionM [[(0, none), (1, none), (2, none), (3, none), (4, none), (5, none), (7, none), (6, some [0, 1, 7]), (8, some [0, 1, 2, 3, 4, 5, 7]), (9, some [0, 1]), (10, none), (11, none), (12, some [])], [(0, none), (1, none), (2, none), (3, none), (4, none), (5, none), (7, none), (8, some [0, 1, 2, 3, 4, 5, 7]), (6, some [0, 1, 7]), (9, some [0, 1]), (10, none), (11, none), (12, some [])]] hMixed (by kernel_rfl) ?_
      focus
        refine WM ?_
        refine am_two (by rfl) (by rfl) (by rfl) ?_ ?_
        rotate_left
        refine WM ?_
        refine am_ef (i := 6) (by rfl) (by rfl) rfl rfl (ef_callm false (fun _ => next_f _ _ _ _ hs (by omega) (by omega) (by simp only [in64]; omega)) rfl .fn rfl (by decide) (by kernel_rfl) rfl rfl (fun _g => .cons (.p rfl) (.cons (.c rfl) .nil)) (fun _g => .cons (.c rfl) (.cons (.c rfl) .nil)) (by simp)) ?_
        rintro F1 H1 ⟨_, _, _, _, ⟨r, rfl, hq, hr1, hr2, hrv⟩, hF, hH⟩
        injection hq with hq1 hq2; subst hq1; subst hq2
        (try simp only [nsl, Nat.reduceAdd, Nat.reduceLT, Nat.reduceSub] at hF); (try simp only [nsl, Nat.reduceAdd, Nat.reduceLT, Nat.reduceSub] at hH); subst hF; subst hH
        obtain ⟨i, rfl⟩ : ∃ i : Nat, r = i := ⟨r.toNat, by omega⟩
        have hk : i < l.length := by have := hr2 (by omega); omega
        obtain ⟨p, hp⟩ : ∃ p, l[i]? = some p := ⟨_, List.getElem?_eq_getElem hk⟩
        have hrow : (l.map Pt.row)[i]? = some [I p.x, I p.y] := by rw [List.getElem?_map, hp]; rfl
        refine ⟨AGX, ?_⟩
        refine am_ef (i := 9) (by rfl) (by rfl) rfl rfl (ef_callm true (fun _ => pick_f [100000, 100001, -9223372036854775808] _ _ _ _ hs (by omega) (by omega) (by simp) (by simp)) rfl .fn rfl (by decide) (by kernel_rfl) rfl rfl (fun _g => .cons (.p rfl) (.cons (.frz rfl rfl rfl rfl rfl) .nil)) (fun _g => .cons (.c rfl) (.cons (.c rfl) .nil)) (fun _ _ _ _ ⟨_, hu, hH, _⟩ => by rw [hu, hH]; exact ⟨.c (.inl trivial), strm_flat (.inr ⟨0, _, rfl, by simp⟩)⟩)) ?_
        rintro F1 H1 ⟨_, _, _, _, ⟨q, rfl, hq, hrmq, hvq⟩, hF, hH⟩
        injection hq with hq1 hq2; subst hq1; subst hq2
        (try simp only [nsl, Nat.reduceAdd, Nat.reduceLT, Nat.reduceSub] at hF); (try simp only [nsl, Nat.reduceAdd, Nat.reduceLT, Nat.reduceSub] at hH); subst hF; subst hH
        refine ⟨AGX, ?_⟩
        refine WN ?_
        rotate_right
        refine am_ef (i := 6) (by rfl) (by rfl) rfl rfl (ef_callm false (fun _ => next_f _ _ _ _ hs (by omega) (by omega) (by simp only [in64]; omega)) rfl .fn rfl (by decide) (by kernel_rfl) rfl rfl (fun _g => .cons (.p rfl) (.cons (.c rfl) .nil)) (fun _g => .cons (.c rfl) (.cons (.c rfl) .nil)) (by simp)) ?_
        rintro F1 H1 ⟨_, _, _, _, ⟨r, rfl, hq, hr1, hr2, hrv⟩, hF, hH⟩
        injection hq with hq1 hq2; subst hq1; subst hq2
        (try simp only [nsl, Nat.reduceAdd, Nat.reduceLT, Nat.reduceSub] at hF); (try simp only [nsl, Nat.reduceAdd, Nat.reduceLT, Nat.reduceSub] at hH); subst hF; subst hH
        obtain ⟨i, rfl⟩ : ∃ i : Nat, r = i := ⟨r.toNat, by omega⟩
        have hk : i < l.length := by have := hr2 (by omega); omega
        obtain ⟨p, hp⟩ : ∃ p, l[i]? = some p := ⟨_, List.getElem?_eq_getElem hk⟩
        have hrow : (l.map Pt.row)[i]? = some [I p.x, I p.y] := by rw [List.getElem?_map, hp]; rfl
        refine ⟨AGX, ?_⟩
        refine WM ?_
        refine am_ef (i := 9) (by rfl) (by rfl) rfl rfl (ef_callm true (fun _ => pick_f [100000, 100001, -9223372036854775808] _ _ _ _ hs (by omega) (by omega) (by simp) (by simp)) rfl .fn rfl (by decide) (by kernel_rfl) rfl rfl (fun _g => .cons (.p rfl) (.cons (.frz rfl rfl rfl rfl rfl) .nil)) (fun _g => .cons (.c rfl) (.cons (.c rfl) .nil)) (fun _ _ _ _ ⟨_, hu, hH, _⟩ => by rw [hu, hH]; exact ⟨.c (.inl trivial), strm_flat (.inr ⟨0, _, rfl, by simp⟩)⟩)) ?_
        rintro F1 H1 ⟨_, _, _, _, ⟨q, rfl, hq, hrmq, hvq⟩, hF, hH⟩
        injection hq with hq1 hq2; subst hq1; subst hq2
        (try simp only [nsl, Nat.reduceAdd, Nat.reduceLT, Nat.reduceSub] at hF); (try simp only [nsl, Nat.reduceAdd, Nat.reduceLT, Nat.reduceSub] at hH); subst hF; subst hH
        refine ⟨AGX, ?_⟩
        refine WN ?_
      all_goals refine wk_of [some 0, some 1, some 2, some 4] (fun _ => [(0, .p 0 0 0), (2, .p 1 0 0), (3, .p 2 0 0)]) (fun _ => [strm v zs _, .box [.c (.r (.slice none 0 0) []), .c (B false)], .box [.o 3 0 (l.set i (⟨q, p.y⟩ : Pt)).length c, .c (B bb)], .arr 90 2 c ((l.set i (⟨q, p.y⟩ : Pt)).map Pt.row)]) (by decide) (ZNL hE) ZCF ZCH (fun _ => ?_)
      all_goals (rw [har] at hvq hrv; rw [hln] at hrv)
      all_goals refine ⟨l.set i ⟨q, p.y⟩, c, _, by omega, by omega, by simp; omega, ?_, rfl, rfl⟩
      all_goals rw [ahead1, if_pos hz, ← hrv, ← hlr, ← hvq, Int.toNat_natCast, List.getD, hp, har]
      all_goals rfl
    · refine ZZ ?_
      refine wk_of [some 0, some 1, some 2, some 4] (fun _ => [(0, .p 0 0 0), (2, .p 1 0 0), (3, .p 2 0 0)]) (fun _ => [strm v zs _, .box [.c (.r (.slice none 0 0) []), .c (B false)], .box [.o 3 0 l.length c, .c (B bb)], .arr 90 2 c (l.map Pt.row)]) (by decide) (ZNL hE) ZCF ZCH (fun _ => ?_)
      exact ⟨l, c, _, by omega, by omega, by omega, by rw [ahead1, if_neg (by rw [hb] at hvb2; have hz := of_decide_eq_false hvb2.symm; rw [har] at hz; exact hz), ← hlr, har], rfl, rfl⟩
  rintro F H ⟨l, c, a', ha1, ha2, hl, hlf, rfl, rfl⟩
  have q1 : (ahead1 zs a).1 = l := by rw [← hlf]
  have q2 : (ahead1 zs a).2 = a' := by rw [← hlf]
  refine WR ?_
  refine al_ef rfl (ef_callm false (fun _ => flip_f 40 _ _ _ hs (by omega) (by omega) (by simp only [in64]; omega)) rfl .fn rfl (by decide) (by kernel_rfl) rfl rfl (fun _g => .cons (.p rfl) (.cons (.c rfl) .nil)) (fun _g => .cons (.c rfl) (.cons (.c rfl) .nil)) (by simp)) ?_
  rintro F1 H1 ⟨_, _, _, _, ⟨b3, rfl, hq, hvb3⟩, hF, hH⟩
  injection hq with hq1 hq2; subst hq1; subst hq2
  (try simp only [nsl, Nat.reduceAdd, Nat.reduceLT, Nat.reduceSub] at hF); (try simp only [nsl, Nat.reduceAdd, Nat.reduceLT, Nat.reduceSub] at hH); subst hF; subst hH
  refine WO ?_
  refine al_nil ?_
  refine aseq_n ?_
  refine aw_cut (fun F H => ∃ (l : List Pt) (c : Nat) (a' : Int), a ≤ a' ∧ a' ≤ a + 40 ∧ l.length ≤ 1000 ∧ (l, bb, a') = aheadF zs a ∧ F = [(2, .p 1 0 0), (3, .p 2 0 0)] ∧ H = [strm v zs a', .box [.c (.r (.slice none 0 0) []), .c (B false)], .box [.o 3 0 l.length c, .c (B bb)], .arr 90 2 c (l.map Pt.row)]) ?_ ?_ wk_aw
  · refine aw_cond rfl (fun hb => ?_) (fun hb => ?_)
    · refine WR ?_
      refine al_ef rfl (ef_callm true (fun _ => pick_f [0, 1, 3, 500, 501] _ _ _ _ hs (by omega) (by omega) (by simp) (by simp)) rfl .fn rfl (by decide) (by kernel_rfl) rfl rfl (fun _g => .cons (.p rfl) (.cons (.frz rfl rfl rfl rfl rfl) .nil)) (fun _g => .cons (.c rfl) (.cons (.c rfl) .nil)) (fun _ _ _ _ ⟨_, hu, hH, _⟩ => by rw [hu, hH]; exact ⟨.c (.inl trivial), strm_flat (.inr ⟨0, _, rfl, by simp⟩)⟩)) ?_
      rintro F1 H1 ⟨_, _, _, _, ⟨q, rfl, hq, hrmq, hvq⟩, hF, hH⟩
      injection hq with hq1 hq2; subst hq1; subst hq2
      (try simp only [nsl, Nat.reduceAdd, Nat.reduceLT, Nat.reduceSub] at hF); (try simp only [nsl, Nat.reduceAdd, Nat.reduceLT, Nat.reduceSub] at hH); subst hF; subst hH
      obtain ⟨n, hn, rfl⟩ : ∃ n : Nat, n ≤ 501 ∧ q = n := by
        simp only [List.mem_cons, List.not_mem_nil, or_false] at hrmq
        exact ⟨q.toNat, by omega, by omega⟩
      refine al_ef rfl (ef_call [4] (fun _ => [.arr 90 2 1 [[I 0, I 0]]]) false (fun _ => repeat_a n (by omega)) rfl .fn rfl (by decide) (by kernel_rfl) rfl (fun _ => .cons (.o rfl rfl) (.cons (.c rfl) .nil)) (by decide) (fun _ => .arr rfl rfl .nil) (by simp)) ?_
      rintro F1 H1 ⟨_, _, _, _, ⟨rfl, rfl⟩, hF, hH⟩
      (try simp only [List.set_cons_zero, List.set_cons_succ, updH, posOf, lentArr, killF, killO, killV, AV.has, AV.hasL, AV.emb, AV.embL, OB.emb, embB, List.filter_cons, List.filter_nil, List.getElem?_cons_zero, List.getElem?_cons_succ, List.getD_cons_zero, List.getD_cons_succ, List.drop_succ_cons, List.drop_zero, List.drop_nil, List.contains_cons, List.contains_nil, Nat.reduceBEq, Nat.reduceEqDiff, beq_self_eq_true, Bool.or_false, Bool.false_or, Bool.or_true, Bool.true_or, Bool.false_eq_true, Option.map_some, Option.map_none, List.map_cons, List.map_nil, List.cons_append, List.nil_append, List.append_nil, List.length_cons, List.length_nil, Nat.reduceAdd, Nat.reduceLT, Nat.reduceSub, if_true, if_false, Nat.zero_add, Nat.add_zero, Nat.sub_zero, Nat.lt_irrefl, Nat.not_lt_zero, Nat.zero_lt_one, Nat.lt_add_one] at hF); (try simp only [List.set_cons_zero, List.set_cons_succ, updH, posOf, lentArr, killF, killO, killV, AV.has, AV.hasL, AV.emb, AV.embL, OB.emb, embB, List.filter_cons, List.filter_nil, List.getElem?_cons_zero, List.getElem?_cons_succ, List.getD_cons_zero, List.getD_cons_succ, List.drop_succ_cons, List.drop_zero, List.drop_nil, List.contains_cons, List.contains_nil, Nat.reduceBEq, Nat.reduceEqDiff, beq_self_eq_true, Bool.or_false, Bool.false_or, Bool.or_true, Bool.true_or, Bool.false_eq_true, Option.map_some, Option.map_none, List.map_cons, List.map_nil, List.cons_append, List.nil_append, List.append_nil, List.length_cons, List.length_nil, Nat.reduceAdd, Nat.reduceLT, Nat.reduceSub, if_true, if_false, Nat.zero_add, Nat.add_zero, Nat.sub_zero, Nat.lt_irrefl, Nat.not_lt_zero, Nat.zero_lt_one, Nat.lt_add_one] at hH); subst hF; subst hH
      refine WE ?_
      have e5 : List.replicate n [I 0, I 0] = (List.replicate n (⟨0, 0⟩ : Pt)).map Pt.row := by simp
      refine wk_of [some 0, some 1, some 2, some 6] (fun _ => [(2, .p 1 0 0), (3, .p 2 0 0)]) (fun _ => [strm v zs _, .box [.c (.r (.slice none 0 0) []), .c (B false)], .box [.o 3 0 (List.replicate n (⟨0, 0⟩ : Pt)).length n, .c (B bb)], .arr 90 2 n ((List.replicate n (⟨0, 0⟩ : Pt)).map Pt.row)]) (by decide) (ZNL hE) ZCF ZCH (fun _ => ?_)
      exact ⟨List.replicate n ⟨0, 0⟩, n, _, by omega, by omega, by simp; omega, by rw [aheadF, if_pos (by rw [hb] at hvb3; rw [q2]; exact of_decide_eq_true hvb3.symm), q2, ← hvq, ← hvbb, Int.toNat_natCast], rfl, rfl⟩
    · refine ZZ ?_
      refine wk_of [some 0, some 1, some 2, some 3] (fun _ => [(2, .p 1 0 0), (3, .p 2 0 0)]) (fun _ => [strm v zs _, .box [.c (.r (.slice none 0 0) []), .c (B false)], .box [.o 3 0 l.length c, .c (B bb)], .arr 90 2 c (l.map Pt.row)]) (by decide) (ZNL hE) ZCF ZCH (fun _ => ?_)
      exact ⟨l, c, _, by omega, by omega, by omega, by rw [aheadF, if_neg (by rw [hb] at hvb3; rw [q2]; exact of_decide_eq_false hvb3.symm), q1, q2, ← hvbb], rfl, rfl⟩
  rintro F H ⟨l, c, a', ha1, ha2, hl, hlf2, rfl, rfl⟩
  refine WA ?_
  exact aret_of (us := [.a [.o 3 0 l.length c, .c (B bb)]]) [some 0] (fun g => .a [.c (.r (g (.o 3 0 l.length c)) (l.map Pt.row)), .c (B bb)]) (fun _ => [strm v zs a']) (.cella rfl (KK (t := 87) rfl) (Cells.box rfl) (by simp) rfl .nil) (by decide) (ZNK rfl) (fun _ => .aL (.cons (.frz rfl rfl (by rw [List.drop_zero, List.take_of_length_le (by simp)]) (by simp) rfl) (.cons (.c rfl) .nil))) ZCH (fun _ => ⟨_, l, bb, a', rfl, rfl, ha1, ha2, hl, hlf2⟩)
end Go.Proofs.YtdmeohgojdfmoaaGreatDoor

/- Spoiling a result: its own array is overwritten, nothing else. -/
namespace Go.Proofs.YtdmeohgojdfmoaaGreatDoor
open Go Go.RowKit
set_option maxRecDepth 100000
theorem spoilI_a (l : List Int) (c : Nat) (hl : l.length ≤ 1000000) : ACallsX true Tryz.prog 58 [.o 0 0 l.length c] [.arr 3 1 c (l.map (fun z => [I z]))] fun u H => ∃ l' : List Int, l'.length = l.length ∧ u = .t [] ∧ H = [.arr 3 1 c (l'.map (fun z => [I z]))] := by
  refine acallsx_of true (N := 14) Tryz.func58 rfl rfl (by simp) fun E hE hP => ?_
  refine WA ?_
  refine WA ?_
  refine aw_loopw (fun m F H => ∃ (k : Nat) (l' : List Int), m + k = l.length ∧ l'.length = l.length ∧ F = [(0, .o 0 0 l.length c), (2, .c (I 0)), (5, .c (I l.length)), (6, .c (I k))] ∧ H = [.arr 3 1 c (l'.map (fun z => [I z]))]) ?_ ?_
  · refine wk_of [some 0] (fun _ => [(0, .o 0 0 l.length c), (2, .c (I 0)), (5, .c (I l.length)), (6, .c (I (0 : Nat)))]) (fun _ => _) (by decide) (ZNL hE) ZCF ZCH (fun _ => ?_)
    exact ⟨l.length, 0, l, by omega, rfl, rfl, rfl⟩
  rintro m F H ⟨k, l', hk, hl', rfl, rfl⟩
  refine WA ?_
  refine aw_if rfl (fun hlt => ?_) (fun hge => ?_)
  · obtain ⟨x, hx⟩ : ∃ x, l'[k]? = some x := ⟨_, List.getElem?_eq_getElem (by omega)⟩
    have hrow : (l'.map (fun z => [I z]))[0 + k]? = some ((fun z => [I z]) x) := by rw [Nat.zero_add, List.getElem?_map, hx]; rfl
    have hrow2 : (l'.map (fun z => [I z]))[k]? = some ((fun z => [I z]) x) := by rw [List.getElem?_map, hx]; rfl
    refine WA ?_
    refine WA ?_
    refine WA ?_
    refine wk_of [some 0] (fun _ => [(0, .o 0 0 l.length c), (2, .c (I 0)), (5, .c (I l.length)), (6, .c (I (k + 1 : Nat)))]) (fun _ => _) (by decide) (ZNL hE) ZCF ZCH (fun _ => ?_)
    exact ⟨m - 1, by omega, k + 1, l'.set k 0, by omega, by simp [hl'], rfl, by rw [List.map_set, Nat.zero_add]⟩
  refine ZZ ?_
  exact aret_0 [some 0] (fun _ => [.arr 3 1 c (l'.map (fun z => [I z]))]) (by simp) rfl (by decide) (ZNK rfl) ZCH (fun _ => ⟨l', hl', rfl, rfl⟩)
theorem spoilIn_a (v : Value) : ACalls Tryz.prog 58 [.c (.r v [])] [] fun u H => u = .t [] ∧ H = [] := by
  refine acalls_of (N := 14) Tryz.func58 rfl rfl (by simp) fun E hE => ?_
  refine WA ?_
  refine WA ?_
  refine aw_loopw (fun m F H => F = [(0, .c (.r v [])), (5, .c (I 0)), (6, .c (I 0))] ∧ H = []) ?_ ?_
  · refine wk_of [] (fun _ => [(0, .c (.r v [])), (5, .c (I 0)), (6, .c (I 0))]) (fun _ => _) (by decide) (ZNL hE) ZCF (fun _ => .nil) (fun _ => ?_)
    exact ⟨0, rfl, rfl⟩
  rintro m F H ⟨rfl, rfl⟩
  refine WA ?_
  refine aw_cond_f rfl ?_
  refine ZZ ?_
  exact aret_0 [] (fun _ => []) (by simp) rfl (by decide) (ZNK rfl) (fun _ => .nil) (fun _ => ⟨rfl, rfl⟩)
theorem spoilL_a (l : List Leg) (c : Nat) (hl : l.length ≤ 1000000) : ACallsX true Tryz.prog 59 [.o 0 0 l.length c] [.arr 38 2 c (l.map Leg.row)] fun u H => ∃ l' : List Leg, l'.length = l.length ∧ u = .t [] ∧ H = [.arr 38 2 c (l'.map Leg.row)] := by
  refine acallsx_of true (N := 14) Tryz.func59 rfl rfl (by simp) fun E hE hP => ?_
  refine WA ?_
  refine WA ?_
  refine aw_loopw (fun m F H => ∃ (k : Nat) (l' : List Leg), m + k = l.length ∧ l'.length = l.length ∧ F = [(0, .o 0 0 l.length c), (2, .p 1 0 0), (5, .c (I l.length)), (6, .c (I k))] ∧ H = [.arr 38 2 c (l'.map Leg.row), .box [.c (I 0), .c (I 0)]]) ?_ ?_
  · refine wk_of [some 0, some 1] (fun _ => [(0, .o 0 0 l.length c), (2, .p 1 0 0), (5, .c (I l.length)), (6, .c (I (0 : Nat)))]) (fun _ => _) (by decide) (ZNL hE) ZCF ZCH (fun _ => ?_)
    exact ⟨l.length, 0, l, by omega, rfl, rfl, rfl⟩
  rintro m F H ⟨k, l', hk, hl', rfl, rfl⟩
  refine WA ?_
  refine aw_if rfl (fun hlt => ?_) (fun hge => ?_)
  · obtain ⟨x, hx⟩ : ∃ x, l'[k]? = some x := ⟨_, List.getElem?_eq_getElem (by omega)⟩
    have hrow : (l'.map Leg.row)[0 + k]? = some [I x.long, I x.limit] := by rw [Nat.zero_add, List.getElem?_map, hx]; rfl
    have hrow2 : (l'.map Leg.row)[k]? = some [I x.long, I x.limit] := by rw [List.getElem?_map, hx]; rfl
    refine WA ?_
    refine WA ?_
    refine WA ?_
    refine wk_of [some 0, some 1] (fun _ => [(0, .o 0 0 l.length c), (2, .p 1 0 0), (5, .c (I l.length)), (6, .c (I (k + 1 : Nat)))]) (fun _ => _) (by decide) (ZNL hE) ZCF ZCH (fun _ => ?_)
    exact ⟨m - 1, by omega, k + 1, l'.set k ⟨0, 0⟩, by omega, by simp [hl'], rfl, by rw [List.map_set, Nat.zero_add]⟩
  refine ZZ ?_
  exact aret_0 [some 0] (fun _ => [.arr 38 2 c (l'.map Leg.row)]) (by simp) rfl (by decide) (ZNK rfl) ZCH (fun _ => ⟨l', hl', rfl, rfl⟩)
theorem spoilLn_a (v : Value) : ACalls Tryz.prog 59 [.c (.r v [])] [] fun u H => u = .t [] ∧ H = [] := by
  refine acalls_of (N := 14) Tryz.func59 rfl rfl (by simp) fun E hE => ?_
  refine WA ?_
  refine WA ?_
  refine aw_loopw (fun m F H => F = [(0, .c (.r v [])), (5, .c (I 0)), (6, .c (I 0))] ∧ H = []) ?_ ?_
  · refine wk_of [] (fun _ => [(0, .c (.r v [])), (5, .c (I 0)), (6, .c (I 0))]) (fun _ => _) (by decide) (ZNL hE) ZCF (fun _ => .nil) (fun _ => ?_)
    exact ⟨0, rfl, rfl⟩
  rintro m F H ⟨rfl, rfl⟩
  refine WA ?_
  refine aw_cond_f rfl ?_
  refine ZZ ?_
  exact aret_0 [] (fun _ => []) (by simp) rfl (by decide) (ZNK rfl) (fun _ => .nil) (fun _ => ⟨rfl, rfl⟩)
end Go.Proofs.YtdmeohgojdfmoaaGreatDoor

/- Back and Legs with results as own arrays. -/
namespace Go.Proofs.YtdmeohgojdfmoaaGreatDoor
open Go Go.RowKit
set_option maxRecDepth 100000
theorem back_o (l : List Leg) (cs : List Int) (v w : Value) (hl : l.length ≤ 1000000) (hcl : cs.length ≤ 1000000) (h0 : cornersF l cs = 0) : ACalls Tryz.prog 23 [.c (legs_r v l), .c (ints_r w cs)] [] fun u H =>
    ∃ k1 k2 : Nat, l.length ≤ k1 ∧ cs.length ≤ k2 ∧ u = .t [.o 0 0 l.length k1, .o 1 0 cs.length k2, .c (I 0)] ∧ H = [.arr 38 2 k1 (l.reverse.map Leg.row), .arr 3 1 k2 (cs.reverse.map fun z => [I z])] := by
  have e1 : (l.map Leg.row).length = l.length := by simp
  have e2 : (cs.map fun z => [I z]).length = cs.length := by simp
  refine acalls_of (N := 24) Tryz.func23 rfl rfl (by simp) fun E hE => ?_
  refine WA ?_
  refine WR ?_
  refine al_ef rfl (ef_call0 false (fun _ => corners1_a l cs v w (by omega) (by omega)) rfl .fn rfl (by decide) (by kernel_rfl) rfl (fun _ => C0 rfl) (by simp)) ?_
  rintro _ _ ⟨_, _, _, ⟨rfl, rfl⟩, hF, hH⟩
  (try simp only [nsl, Nat.reduceAdd, Nat.reduceLT, Nat.reduceSub] at hF); (try simp only [nsl, Nat.reduceAdd, Nat.reduceLT, Nat.reduceSub] at hH); subst hF; subst hH
  refine WE ?_
  refine WA ?_
  refine aw_cond_f rfl ?_
  refine ZZ ?_
  refine WR ?_
  refine al_ef rfl (ef_call0 true (fun _ => cloneL_a (l.map Leg.row) v (okLegs l) (by omega)) rfl .fn rfl (by decide) (by kernel_rfl) rfl (fun _ => .cons (.c rfl) .nil) (fun _ _ u Hr ⟨c, _, hu, hH⟩ => by rw [hu, hH]; exact ⟨.o, fun o ho => by rw [List.mem_singleton.1 ho]; exact leg_flat _ _⟩)) ?_
  rintro _ _ ⟨_, _, _, ⟨c1, hc1, rfl, rfl⟩, hF, hH⟩
  (try simp only [nsl, Nat.reduceAdd, Nat.reduceLT, Nat.reduceSub] at hF); (try simp only [nsl, Nat.reduceAdd, Nat.reduceLT, Nat.reduceSub] at hH); subst hF; subst hH
  refine WO ?_
  refine al_ef rfl (ef_call0 true (fun _ => cloneI_a (cs.map fun z => [I z]) w (okInts cs) (by omega)) rfl .fn rfl (by decide) (by kernel_rfl) rfl (fun _ => .cons (.c rfl) .nil) (fun _ _ u Hr ⟨c, _, hu, hH⟩ => by rw [hu, hH]; exact ⟨.o, fun o ho => by rw [List.mem_singleton.1 ho]; exact int_flat _ _⟩)) ?_
  rintro _ _ ⟨_, _, _, ⟨c2, hc2, rfl, rfl⟩, hF, hH⟩
  (try simp only [nsl, Nat.reduceAdd, Nat.reduceLT, Nat.reduceSub] at hF); (try simp only [nsl, Nat.reduceAdd, Nat.reduceLT, Nat.reduceSub] at hH); subst hF; subst hH
  refine WE ?_
  refine WR ?_
  refine al_ef rfl (ef_callp [0] (fun _ => [.arr 38 2 c1 (l.map Leg.row)]) false (fun _ => revL_a l c1 (by omega) (by omega)) rfl .fn rfl (by decide) (by kernel_rfl) rfl (fun _ => .cons (.o rfl e1) .nil) (by decide) (fun _ => .arr rfl rfl .nil) (by simp)) ?_
  rintro F1 H1 ⟨_, _, _, _, ⟨rfl, rfl⟩, hF, hH⟩
  rw [killF_nil] at hF
  (try simp only [List.set_cons_zero, List.set_cons_succ, updH, posOf, lentArr, killF, killO, killV, AV.has, AV.hasL, AV.emb, AV.embL, OB.emb, embB, List.filter_cons, List.filter_nil, List.getElem?_cons_zero, List.getElem?_cons_succ, List.getD_cons_zero, List.getD_cons_succ, List.drop_succ_cons, List.drop_zero, List.drop_nil, List.contains_cons, List.contains_nil, Nat.reduceBEq, Nat.reduceEqDiff, beq_self_eq_true, Bool.or_false, Bool.false_or, Bool.or_true, Bool.true_or, Bool.false_eq_true, Option.map_some, Option.map_none, List.map_cons, List.map_nil, List.cons_append, List.nil_append, List.append_nil, List.length_cons, List.length_nil, Nat.reduceAdd, Nat.reduceLT, Nat.reduceSub, if_true, if_false, Nat.zero_add, Nat.add_zero, Nat.sub_zero, Nat.lt_irrefl, Nat.not_lt_zero, Nat.zero_lt_one, Nat.lt_add_one] at hF); (try simp only [List.set_cons_zero, List.set_cons_succ, updH, posOf, lentArr, killF, killO, killV, AV.has, AV.hasL, AV.emb, AV.embL, OB.emb, embB, List.filter_cons, List.filter_nil, List.getElem?_cons_zero, List.getElem?_cons_succ, List.getD_cons_zero, List.getD_cons_succ, List.drop_succ_cons, List.drop_zero, List.drop_nil, List.contains_cons, List.contains_nil, Nat.reduceBEq, Nat.reduceEqDiff, beq_self_eq_true, Bool.or_false, Bool.false_or, Bool.or_true, Bool.true_or, Bool.false_eq_true, Option.map_some, Option.map_none, List.map_cons, List.map_nil, List.cons_append, List.nil_append, List.append_nil, List.length_cons, List.length_nil, Nat.reduceAdd, Nat.reduceLT, Nat.reduceSub, if_true, if_false, Nat.zero_add, Nat.add_zero, Nat.sub_zero, Nat.lt_irrefl, Nat.not_lt_zero, Nat.zero_lt_one, Nat.lt_add_one] at hH); subst hF; subst hH
  refine WE ?_
  refine WR ?_
  refine al_ef rfl (ef_callp [1] (fun _ => [.arr 3 1 c2 (cs.map fun z => [I z])]) false (fun _ => revI_a cs c2 (by omega) (by omega)) rfl .fn rfl (by decide) (by kernel_rfl) rfl (fun _ => .cons (.o rfl e2) .nil) (by decide) (fun _ => .arr rfl rfl .nil) (by simp)) ?_
  rintro F1 H1 ⟨_, _, _, _, ⟨rfl, rfl⟩, hF, hH⟩
  rw [killF_nil] at hF
  (try simp only [List.set_cons_zero, List.set_cons_succ, updH, posOf, lentArr, killF, killO, killV, AV.has, AV.hasL, AV.emb, AV.embL, OB.emb, embB, List.filter_cons, List.filter_nil, List.getElem?_cons_zero, List.getElem?_cons_succ, List.getD_cons_zero, List.getD_cons_succ, List.drop_succ_cons, List.drop_zero, List.drop_nil, List.contains_cons, List.contains_nil, Nat.reduceBEq, Nat.reduceEqDiff, beq_self_eq_true, Bool.or_false, Bool.false_or, Bool.or_true, Bool.true_or, Bool.false_eq_true, Option.map_some, Option.map_none, List.map_cons, List.map_nil, List.cons_append, List.nil_append, List.append_nil, List.length_cons, List.length_nil, Nat.reduceAdd, Nat.reduceLT, Nat.reduceSub, if_true, if_false, Nat.zero_add, Nat.add_zero, Nat.sub_zero, Nat.lt_irrefl, Nat.not_lt_zero, Nat.zero_lt_one, Nat.lt_add_one] at hF); (try simp only [List.set_cons_zero, List.set_cons_succ, updH, posOf, lentArr, killF, killO, killV, AV.has, AV.hasL, AV.emb, AV.embL, OB.emb, embB, List.filter_cons, List.filter_nil, List.getElem?_cons_zero, List.getElem?_cons_succ, List.getD_cons_zero, List.getD_cons_succ, List.drop_succ_cons, List.drop_zero, List.drop_nil, List.contains_cons, List.contains_nil, Nat.reduceBEq, Nat.reduceEqDiff, beq_self_eq_true, Bool.or_false, Bool.false_or, Bool.or_true, Bool.true_or, Bool.false_eq_true, Option.map_some, Option.map_none, List.map_cons, List.map_nil, List.cons_append, List.nil_append, List.append_nil, List.length_cons, List.length_nil, Nat.reduceAdd, Nat.reduceLT, Nat.reduceSub, if_true, if_false, Nat.zero_add, Nat.add_zero, Nat.sub_zero, Nat.lt_irrefl, Nat.not_lt_zero, Nat.zero_lt_one, Nat.lt_add_one] at hH); subst hF; subst hH
  refine WE ?_
  refine WA ?_
  exact aret_of (us := [.o 0 0 (l.map Leg.row).length c1, .o 1 0 (cs.map fun z => [I z]).length c2, .c (I 0)]) [some 0, some 1] (fun _ => .t [.o 0 0 l.length c1, .o 1 0 cs.length c2, .c (I 0)]) (fun _ => [.arr 38 2 c1 (l.reverse.map Leg.row), .arr 3 1 c2 (cs.reverse.map fun z => [I z])]) (.tmp rfl (.tmp rfl (.tmp rfl .nil))) (by decide) (ZNK rfl)
    (fun _ => .tL (.cons (.o rfl e1) (.cons (.o rfl e2) (.cons (.c rfl) .nil)))) ZCH (fun _ => ⟨c1, c2, by omega, by omega, rfl, rfl⟩)
theorem legs_o (l : List Pt) (v : Value) (b : Bool) (n : Int) (hm : movF l b n = 0) : ACalls Tryz.prog 61 [pth v l b, .c (I n)] [] fun u H => ∃ c : Nat, (legsPt l b n).length ≤ c ∧ u = .t [.o 0 0 (legsPt l b n).length c, .c (I 0)] ∧ H = [.arr 38 2 c ((legsPt l b n).map Leg.row)] := by
  refine acalls_of (N := 36) Tryz.func61 rfl rfl (by simp) fun E hE => ?_
  refine WA ?_
  refine WR ?_
  refine al_ef rfl (ef_call0 false (fun _ => moves_a l v b n) rfl .fn rfl (by decide) (by kernel_rfl) rfl (fun _ => C0 rfl) (by simp)) ?_
  rintro _ _ ⟨_, _, _, ⟨vd, rfl, rfl⟩, hF, hH⟩
  (try simp only [nsl, Nat.reduceAdd, Nat.reduceLT, Nat.reduceSub] at hF); (try simp only [nsl, Nat.reduceAdd, Nat.reduceLT, Nat.reduceSub] at hH); subst hF; subst hH
  refine WE ?_
  refine WA ?_
  rw [hm]
  simp only [if_true]
  refine aw_cond_f rfl ?_
  obtain ⟨hp, hdl⟩ := movF_ok hm
  obtain ⟨d1, d2⟩ := difs_ok (pathF_ok hp).1
  have hld : legsPt l b n = (difs l b).map (legPt n) := rfl
  obtain ⟨D, hD⟩ : ∃ D, D = difs l b := ⟨_, rfl⟩
  rw [hld]
  rw [← hD] at d1 d2 ⊢
  have e2 : (D.map Pt.row).length = D.length := by simp
  refine ZZ ?_
  refine WA ?_
  refine WA ?_
  refine aw_loopw (fun m F H => ∃ (k c : Nat) (o : List Leg), m + k = D.length ∧ o = (D.take k).map (legPt n) ∧ o.length ≤ c ∧ F = [(1, .c (I n)), (8, .o 0 0 o.length c), (20, .c (pts_r vd D)), (21, .c (I (D.map Pt.row).length)), (22, .c (I k))] ∧ H = [.arr 38 2 c (o.map Leg.row)]) ?_ ?_
  · refine wk_of [none] (fun _ => [(1, .c (I n)), (8, .o 0 0 ([] : List Leg).length 0), (20, .c (pts_r vd D)), (21, .c (I (D.map Pt.row).length)), (22, .c (I (0 : Nat)))]) (fun _ => [.arr 38 2 0 (([] : List Leg).map Leg.row)]) (by decide) (ZNL hE) ZCF ZCH (fun _ => ?_)
    exact ⟨D.length, 0, 0, [], by omega, rfl, Nat.le_refl _, rfl, rfl⟩
  rintro m F H ⟨k, c, o, hk, ho, hoc, rfl, rfl⟩
  have hol : o.length ≤ k := by rw [ho]; simp; omega
  refine WA ?_
  refine aw_if rfl (fun hlt => ?_) (fun hge => ?_)
  · obtain ⟨x, hx⟩ : ∃ x, D[k]? = some x := ⟨_, List.getElem?_eq_getElem (by omega)⟩
    have hrx : (D.map Pt.row)[k]? = some [I x.x, I x.y] := by rw [List.getElem?_map, hx]; rfl
    obtain ⟨hxb, -⟩ := d2 x (List.mem_of_getElem? hx)
    refine WA ?_
    refine WR ?_
    refine al_ef rfl (ef_call0 false (fun _ => dist_a x ⟨0, 0⟩ (by omega) (by omega) (by simp) (by simp)) rfl .fn rfl (by decide) (by kernel_rfl) rfl (fun _ => C0 rfl) (by simp)) ?_
    rintro _ _ ⟨_, _, _, ⟨rfl, rfl⟩, hF, hH⟩
    rw [dist0] at hF
    (try simp only [nsl, Nat.reduceAdd, Nat.reduceLT, Nat.reduceSub] at hF); (try simp only [nsl, Nat.reduceAdd, Nat.reduceLT, Nat.reduceSub] at hH); subst hF; subst hH
    refine WO ?_
    refine al_ef rfl (Zapp (KA (t := 26) rfl)) ?_
    rintro _ _ ⟨_, cc, hcc, rfl, rfl⟩
    refine WE ?_
    refine WA ?_
    refine wk_of [some 0] (fun _ => [(1, .c (I n)), (8, .o 0 0 (o ++ [legPt n x]).length cc), (20, .c (pts_r vd D)), (21, .c (I (D.map Pt.row).length)), (22, .c (I (k + 1 : Nat)))]) (fun _ => _) (by decide) (ZNL hE) ZCF ZCH (fun _ => ?_)
    exact ⟨m - 1, by omega, k + 1, cc, o ++ [legPt n x], by omega, by rw [take_map1 _ hx, ho], (by simp; omega), rfl, by rw [List.map_append]; rfl⟩
  obtain rfl : k = D.length := by omega
  rw [List.take_length] at ho
  subst ho
  refine ZZ ?_
  refine WA ?_
  exact aret_of (us := [.o 0 0 (D.map (legPt n)).length c, .c (I 0)]) [some 0] (fun _ => .t [.o 0 0 (D.map (legPt n)).length c, .c (I 0)]) (fun _ => [.arr 38 2 c ((D.map (legPt n)).map Leg.row)]) (.tmp rfl (.tmp rfl .nil)) (by decide) (ZNK rfl) (fun _ => .tL (.cons (.o rfl rfl) (.cons (.c rfl) .nil))) ZCH (fun _ => ⟨c, hoc, rfl, rfl⟩)
end Go.Proofs.YtdmeohgojdfmoaaGreatDoor

/- Split with its results as own arrays. -/
namespace Go.Proofs.YtdmeohgojdfmoaaGreatDoor
open Go Go.RowKit
set_option maxRecDepth 100000
-- NEWM
set_option maxHeartbeats 4000000 in
theorem split_o (l : List Leg) (cs : List Int) (v w : Value) (leg at_ : Int) (hll : l.length ≤ 1000000) (hcc : cs.length ≤ 1000000) (hz : splV l cs leg at_ = 0) : ACalls Tryz.prog 42 [.c (legs_r v l), .c (ints_r w cs), .c (I leg), .c (I at_)] [] fun u H =>
    ∃ k1 k2 : Nat, u = .t [.o 0 0 (splR l cs leg at_).1.length k1, .o 1 0 (splR l cs leg at_).2.length k2, .c (I 0)] ∧ H = [.arr 38 2 k1 ((splR l cs leg at_).1.map Leg.row), .arr 3 1 k2 ((splR l cs leg at_).2.map fun z => [I z])] := by
  have e1 : (l.map Leg.row).length = l.length := by simp
  have e2 : (cs.map fun z => [I z]).length = cs.length := by simp
  have h00 : cornersF l cs = 0 := by
    unfold splV at hz
    split at hz
    · omega
    · omega
  have hzf : splF l leg at_ = 0 := by
    unfold splV at hz
    rwa [if_neg (by omega)] at hz
  refine acalls_of (N := 70) Tryz.func42 rfl rfl (by simp) fun E hE => ?_
  refine WA ?_
  refine WR ?_
  refine al_ef rfl (ef_call0 false (fun _ => corners1_a l cs v w (by omega) (by omega)) rfl .fn rfl (by decide) (by kernel_rfl) rfl (fun _ => C0 rfl) (by simp)) ?_
  rintro _ _ ⟨_, _, _, ⟨rfl, rfl⟩, hF, hH⟩
  (try simp only [nsl, Nat.reduceAdd, Nat.reduceLT, Nat.reduceSub] at hF); (try simp only [nsl, Nat.reduceAdd, Nat.reduceLT, Nat.reduceSub] at hH); subst hF; subst hH
  refine WE ?_
  refine WA ?_
  rw [h00]
  refine aw_cond_f rfl ?_
  obtain ⟨r1, r2, r3, r4, r5⟩ := cornersF_ok h00
  refine ZZ ?_
  have hl : 0 ≤ leg ∧ leg < l.length := by
    unfold splF at hzf
    split at hzf
    · omega
    · omega
  obtain ⟨i, rfl⟩ : ∃ i : Nat, leg = i := ⟨leg.toNat, by omega⟩
  obtain ⟨x, hx⟩ : ∃ x, l[i]? = some x := ⟨_, List.getElem?_eq_getElem (by omega)⟩
  have hrow : (l.map Leg.row)[i]? = some [I x.long, I x.limit] := by rw [List.getElem?_map, hx]; rfl
  obtain ⟨g1, g2, g3, g4⟩ := r3 x (List.mem_of_getElem? hx)
  have hsp : splF l i at_ = if at_ < 1 ∨ x.long ≤ at_ then 1 else if 2000 ≤ l.length then 2 else 0 := by
    unfold splF; rw [if_neg (by omega)]; simp only [Int.toNat_natCast, hx]
  have hsr : splR l cs i at_ = (splL l i x at_, splC cs i x) := by unfold splR; simp only [Int.toNat_natCast, hx]
  have ha : 1 ≤ at_ ∧ at_ < x.long := by
    rw [hsp] at hzf
    split at hzf
    · omega
    · omega
  rw [if_neg (by omega)] at hsp
  have h2 : l.length < 2000 := by
    rw [hsp] at hzf
    split at hzf <;> omega
  refine WA ?_
  refine aw_cond_f rfl ?_
  refine ZZ ?_
  refine WA ?_
  refine WA ?_
  refine aw_cond_f rfl ?_
  refine ZZ ?_
  refine WA ?_
  refine aw_cond_f rfl ?_
  have hil : i < l.length := by omega
  refine ZZ ?_
  refine aw_cut (fun F H => ∃ cL : Nat, F = [(1, .c (ints_r w cs)), (2, .c (I i)), (3, .c (I at_)), (12, .p 0 0 0), (13, .o 1 0 ((l.map Leg.row).length + 1) cL)] ∧ H = [.box (x.row.map .c), .arr 38 2 cL ((l.map Leg.row).take i ++ [I at_, I x.limit] :: (l.map Leg.row).drop i)]) ?_ ?_ wk_aw
  · refine ZZ ?_
    refine aw_regionM [[(0, none), (2, none), (3, none), (4, none), (5, none), (6, none), (1, some [2, 3, 4, 5, 6]), (7, some [0, 2]), (8, some []), (9, none)], [(0, none), (2, none), (3, none), (4, none), (5, none), (6, none), (7, some [0, 2]), (1, some [2, 3, 4, 5, 6]), (8, some []), (9, none)]] hMixed (by kernel_rfl) ?_
    focus
      refine WM ?_
      refine am_two (by rfl) (by rfl) (by rfl) ?_ ?_
      rotate_left
      refine WM ?_
      refine am_ef (i := 1) (by rfl) (by rfl) rfl rfl (ef_call0 true (fun _ => cloneL_a (l.map Leg.row) v (okLegs l) (by omega)) rfl .fn rfl (by decide) (by kernel_rfl) rfl (fun _ => .cons (.c rfl) .nil) (fun _ _ u Hr ⟨c, _, hu, hH⟩ => by rw [hu, hH]; exact ⟨.o, fun o ho => by rw [List.mem_singleton.1 ho]; exact leg_flat _ _⟩)) ?_
      rintro _ _ ⟨_, _, _, ⟨c1, hc1, rfl, rfl⟩, hF, hH⟩
      (try simp only [nsl, Nat.reduceAdd, Nat.reduceLT, Nat.reduceSub] at hF); (try simp only [nsl, Nat.reduceAdd, Nat.reduceLT, Nat.reduceSub] at hH); subst hF; subst hH
      refine ⟨AGX, ?_⟩
      first | refine am_ef (i := 8) (by rfl) (by rfl) rfl rfl (ef_call [1, 2] (fun _ => [.arr 38 2 c1 (l.map Leg.row), .arr 38 2 1 [[I at_, I x.limit]]]) false (fun _ => insL_a [I at_, I x.limit] (l.map Leg.row) i c1 (by omega) (by omega) (by omega)) rfl .fn rfl (by decide) (by kernel_rfl) rfl (fun _ => .cons (.o rfl rfl) (.cons (.c rfl) (.cons (.o rfl rfl) .nil))) (by decide) (fun _ => .arr rfl rfl (.arr rfl rfl .nil)) (by simp)) ?_ | refine am_ef (i := 8) (by rfl) (by rfl) rfl rfl (ef_call [2, 1] (fun _ => [.arr 38 2 c1 (l.map Leg.row), .arr 38 2 1 [[I at_, I x.limit]]]) false (fun _ => insL_a [I at_, I x.limit] (l.map Leg.row) i c1 (by omega) (by omega) (by omega)) rfl .fn rfl (by decide) (by kernel_rfl) rfl (fun _ => .cons (.o rfl rfl) (.cons (.c rfl) (.cons (.o rfl rfl) .nil))) (by decide) (fun _ => .arr rfl rfl (.arr rfl rfl .nil)) (by simp)) ?_
      rintro F1 H1 ⟨_, _, _, _, ⟨c2, rfl, rfl⟩ | ⟨c2, rfl, rfl⟩, hF, hH⟩ <;> ((try simp only [List.set_cons_zero, List.set_cons_succ, updH, posOf, lentArr, killF, killO, killV, AV.has, AV.hasL, AV.emb, AV.embL, OB.emb, embB, List.filter_cons, List.filter_nil, List.getElem?_cons_zero, List.getElem?_cons_succ, List.getD_cons_zero, List.getD_cons_succ, List.drop_succ_cons, List.drop_zero, List.drop_nil, List.contains_cons, List.contains_nil, Nat.reduceBEq, Nat.reduceEqDiff, beq_self_eq_true, Bool.or_false, Bool.false_or, Bool.or_true, Bool.true_or, Bool.false_eq_true, Option.map_some, Option.map_none, List.map_cons, List.map_nil, List.cons_append, List.nil_append, List.append_nil, List.length_cons, List.length_nil, Nat.reduceAdd, Nat.reduceLT, Nat.reduceSub, if_true, if_false, Nat.zero_add, Nat.add_zero, Nat.sub_zero, Nat.lt_irrefl, Nat.not_lt_zero, Nat.zero_lt_one, Nat.lt_add_one] at hF); (try simp only [List.set_cons_zero, List.set_cons_succ, updH, posOf, lentArr, killF, killO, killV, AV.has, AV.hasL, AV.emb, AV.embL, OB.emb, embB, List.filter_cons, List.filter_nil, List.getElem?_cons_zero, List.getElem?_cons_succ, List.getD_cons_zero, List.getD_cons_succ, List.drop_succ_cons, List.drop_zero, List.drop_nil, List.contains_cons, List.contains_nil, Nat.reduceBEq, Nat.reduceEqDiff, beq_self_eq_true, Bool.or_false, Bool.false_or, Bool.or_true, Bool.true_or, Bool.false_eq_true, Option.map_some, Option.map_none, List.map_cons, List.map_nil, List.cons_append, List.nil_append, List.append_nil, List.length_cons, List.length_nil, Nat.reduceAdd, Nat.reduceLT, Nat.reduceSub, if_true, if_false, Nat.zero_add, Nat.add_zero, Nat.sub_zero, Nat.lt_irrefl, Nat.not_lt_zero, Nat.zero_lt_one, Nat.lt_add_one] at hH); subst hF; subst hH; refine ⟨AGX, ?_⟩; refine WN ?_)
      rotate_right
      refine am_ef (i := 1) (by rfl) (by rfl) rfl rfl (ef_call0 true (fun _ => cloneL_a (l.map Leg.row) v (okLegs l) (by omega)) rfl .fn rfl (by decide) (by kernel_rfl) rfl (fun _ => .cons (.c rfl) .nil) (fun _ _ u Hr ⟨c, _, hu, hH⟩ => by rw [hu, hH]; exact ⟨.o, fun o ho => by rw [List.mem_singleton.1 ho]; exact leg_flat _ _⟩)) ?_
      rintro _ _ ⟨_, _, _, ⟨c1, hc1, rfl, rfl⟩, hF, hH⟩
      (try simp only [nsl, Nat.reduceAdd, Nat.reduceLT, Nat.reduceSub] at hF); (try simp only [nsl, Nat.reduceAdd, Nat.reduceLT, Nat.reduceSub] at hH); subst hF; subst hH
      refine ⟨AGX, ?_⟩
      refine WM ?_
      first | refine am_ef (i := 8) (by rfl) (by rfl) rfl rfl (ef_call [1, 2] (fun _ => [.arr 38 2 c1 (l.map Leg.row), .arr 38 2 1 [[I at_, I x.limit]]]) false (fun _ => insL_a [I at_, I x.limit] (l.map Leg.row) i c1 (by omega) (by omega) (by omega)) rfl .fn rfl (by decide) (by kernel_rfl) rfl (fun _ => .cons (.o rfl rfl) (.cons (.c rfl) (.cons (.o rfl rfl) .nil))) (by decide) (fun _ => .arr rfl rfl (.arr rfl rfl .nil)) (by simp)) ?_ | refine am_ef (i := 8) (by rfl) (by rfl) rfl rfl (ef_call [2, 1] (fun _ => [.arr 38 2 c1 (l.map Leg.row), .arr 38 2 1 [[I at_, I x.limit]]]) false (fun _ => insL_a [I at_, I x.limit] (l.map Leg.row) i c1 (by omega) (by omega) (by omega)) rfl .fn rfl (by decide) (by kernel_rfl) rfl (fun _ => .cons (.o rfl rfl) (.cons (.c rfl) (.cons (.o rfl rfl) .nil))) (by decide) (fun _ => .arr rfl rfl (.arr rfl rfl .nil)) (by simp)) ?_
      rintro F1 H1 ⟨_, _, _, _, ⟨c2, rfl, rfl⟩ | ⟨c2, rfl, rfl⟩, hF, hH⟩ <;> ((try simp only [List.set_cons_zero, List.set_cons_succ, updH, posOf, lentArr, killF, killO, killV, AV.has, AV.hasL, AV.emb, AV.embL, OB.emb, embB, List.filter_cons, List.filter_nil, List.getElem?_cons_zero, List.getElem?_cons_succ, List.getD_cons_zero, List.getD_cons_succ, List.drop_succ_cons, List.drop_zero, List.drop_nil, List.contains_cons, List.contains_nil, Nat.reduceBEq, Nat.reduceEqDiff, beq_self_eq_true, Bool.or_false, Bool.false_or, Bool.or_true, Bool.true_or, Bool.false_eq_true, Option.map_some, Option.map_none, List.map_cons, List.map_nil, List.cons_append, List.nil_append, List.append_nil, List.length_cons, List.length_nil, Nat.reduceAdd, Nat.reduceLT, Nat.reduceSub, if_true, if_false, Nat.zero_add, Nat.add_zero, Nat.sub_zero, Nat.lt_irrefl, Nat.not_lt_zero, Nat.zero_lt_one, Nat.lt_add_one] at hF); (try simp only [List.set_cons_zero, List.set_cons_succ, updH, posOf, lentArr, killF, killO, killV, AV.has, AV.hasL, AV.emb, AV.embL, OB.emb, embB, List.filter_cons, List.filter_nil, List.getElem?_cons_zero, List.getElem?_cons_succ, List.getD_cons_zero, List.getD_cons_succ, List.drop_succ_cons, List.drop_zero, List.drop_nil, List.contains_cons, List.contains_nil, Nat.reduceBEq, Nat.reduceEqDiff, beq_self_eq_true, Bool.or_false, Bool.false_or, Bool.or_true, Bool.true_or, Bool.false_eq_true, Option.map_some, Option.map_none, List.map_cons, List.map_nil, List.cons_append, List.nil_append, List.append_nil, List.length_cons, List.length_nil, Nat.reduceAdd, Nat.reduceLT, Nat.reduceSub, if_true, if_false, Nat.zero_add, Nat.add_zero, Nat.sub_zero, Nat.lt_irrefl, Nat.not_lt_zero, Nat.zero_lt_one, Nat.lt_add_one] at hH); subst hF; subst hH; refine ⟨AGX, ?_⟩; refine WN ?_)
    all_goals first
      | exact wk_of [some 0, some 1] (fun _ => [(1, .c (ints_r w cs)), (2, .c (I i)), (3, .c (I at_)), (12, .p 0 0 0), (13, .o 1 0 ((l.map Leg.row).length + 1) c2)]) (fun _ => [.box (x.row.map .c), .arr 38 2 c2 ((l.map Leg.row).take i ++ [I at_, I x.limit] :: (l.map Leg.row).drop i)]) (by decide) (ZNL hE) ZCF ZCH (fun _ => ⟨c2, rfl, rfl⟩)
      | exact wk_of [some 0, some 2] (fun _ => [(1, .c (ints_r w cs)), (2, .c (I i)), (3, .c (I at_)), (12, .p 0 0 0), (13, .o 1 0 ((l.map Leg.row).length + 1) c2)]) (fun _ => [.box (x.row.map .c), .arr 38 2 c2 ((l.map Leg.row).take i ++ [I at_, I x.limit] :: (l.map Leg.row).drop i)]) (by decide) (ZNL hE) ZCF ZCH (fun _ => ⟨c2, rfl, rfl⟩)
      | exact wk_of [some 0, some 3] (fun _ => [(1, .c (ints_r w cs)), (2, .c (I i)), (3, .c (I at_)), (12, .p 0 0 0), (13, .o 1 0 ((l.map Leg.row).length + 1) c2)]) (fun _ => [.box (x.row.map .c), .arr 38 2 c2 ((l.map Leg.row).take i ++ [I at_, I x.limit] :: (l.map Leg.row).drop i)]) (by decide) (ZNL hE) ZCF ZCH (fun _ => ⟨c2, rfl, rfl⟩)
  rintro F H ⟨cL, rfl, rfl⟩
  have hdr : (l.map Leg.row).drop i = [I x.long, I x.limit] :: (l.map Leg.row).drop (i + 1) := by
    rw [← List.map_drop, drop_consk hx, List.map_cons, List.map_drop]
  have hti : ((l.map Leg.row).take i).length = i := by simp; omega
  have hr1 : ((l.map Leg.row).take i ++ [I at_, I x.limit] :: (l.map Leg.row).drop i)[i + 1]? = some [I x.long, I x.limit] := by
    rw [hdr, List.getElem?_append_right (by omega), hti, show i + 1 - i = 1 from by omega]; rfl
  have hset : ((l.map Leg.row).take i ++ [I at_, I x.limit] :: (l.map Leg.row).drop i).set (i + 1) [I (x.long - at_), I x.limit] = (splL l i x at_).map Leg.row := by
    rw [hdr, List.set_append_right _ _ (by omega), hti, show i + 1 - i = 1 from by omega]
    simp [splL, List.map_append, List.map_take, List.map_drop]
  have hfL : ((((l.map Leg.row).take i ++ [I at_, I x.limit] :: (l.map Leg.row).drop i).set (i + 1) [I (x.long - at_), I x.limit]).drop 0).take ((l.map Leg.row).length + 1) = (splL l i x at_).map Leg.row := by
    rw [hset, List.drop_zero, List.take_of_length_le (by simp [splL]; omega)]
  have hlL : ((splL l i x at_).map Leg.row).length = (l.map Leg.row).length + 1 := by simp [splL]; omega
  have hci : (cs.map fun z => [I z]).take i ++ [I x.limit] :: (cs.map fun z => [I z]).drop i = (splC cs i x).map fun z => [I z] := by
    simp [splC, List.map_append, List.map_take, List.map_drop]
  have hlI : ((splC cs i x).map fun z => [I z]).length = (cs.map fun z => [I z]).length + 1 := by simp [splC]; omega
  have hfI : (((cs.map fun z => [I z]).take i ++ [I x.limit] :: (cs.map fun z => [I z]).drop i).drop 0).take ((cs.map fun z => [I z]).length + 1) = (splC cs i x).map fun z => [I z] := by
    rw [hci, List.drop_zero, List.take_of_length_le (by omega)]
  have hlL2 : (l.map Leg.row).length + 1 = (splL l i x at_).length := by simp [splL]; omega
  have hlI2 : (cs.map fun z => [I z]).length + 1 = (splC cs i x).length := by simp [splC]; omega
  refine ZR ?_
  iterate 2 refine WX1 ?_
  refine ZA (rd_addz (z := ((i + 1 : Nat) : Int)) rfl rfl rfl (by omega) (by omega)) ?_
  refine WE ?_
  refine ZZ ?_
  refine aw_regionM [[(0, none), (1, none), (3, none), (4, none), (5, none), (2, some [0, 3, 4, 5]), (6, some [0, 1, 3]), (7, some [0]), (8, none), (9, none), (10, none)], [(0, none), (1, none), (3, none), (4, none), (5, none), (6, some [0, 1, 3]), (2, some [0, 3, 4, 5]), (7, some [0]), (8, none), (9, none), (10, none)]] hMixed (by kernel_rfl) ?_
  focus
    refine WM ?_
    refine am_two (by rfl) (by rfl) (by rfl) ?_ ?_
    rotate_left
    refine WM ?_
    refine am_ef (i := 2) (by rfl) (by rfl) rfl rfl (ef_call0 true (fun _ => cloneI_a (cs.map fun z => [I z]) w (okInts cs) (by omega)) rfl .fn rfl (by decide) (by kernel_rfl) rfl (fun _ => .cons (.c rfl) .nil) (fun _ _ u Hr ⟨c, _, hu, hH⟩ => by rw [hu, hH]; exact ⟨.o, fun o ho => by rw [List.mem_singleton.1 ho]; exact int_flat _ _⟩)) ?_
    rintro _ _ ⟨_, _, _, ⟨c2, hc2, rfl, rfl⟩, hF, hH⟩
    (try simp only [nsl, Nat.reduceAdd, Nat.reduceLT, Nat.reduceSub] at hF); (try simp only [nsl, Nat.reduceAdd, Nat.reduceLT, Nat.reduceSub] at hH); subst hF; subst hH
    refine ⟨AGX, ?_⟩
    first | refine am_ef (i := 7) (by rfl) (by rfl) rfl rfl (ef_call [2, 3] (fun _ => [.arr 3 1 c2 (cs.map fun z => [I z]), .arr 3 1 1 [[I x.limit]]]) false (fun _ => insI_a [I x.limit] (cs.map fun z => [I z]) i c2 (by omega) (by omega) (by omega)) rfl .fn rfl (by decide) (by kernel_rfl) rfl (fun _ => .cons (.o rfl rfl) (.cons (.c rfl) (.cons (.o rfl rfl) .nil))) (by decide) (fun _ => .arr rfl rfl (.arr rfl rfl .nil)) (by simp)) ?_ | refine am_ef (i := 7) (by rfl) (by rfl) rfl rfl (ef_call [3, 2] (fun _ => [.arr 3 1 c2 (cs.map fun z => [I z]), .arr 3 1 1 [[I x.limit]]]) false (fun _ => insI_a [I x.limit] (cs.map fun z => [I z]) i c2 (by omega) (by omega) (by omega)) rfl .fn rfl (by decide) (by kernel_rfl) rfl (fun _ => .cons (.o rfl rfl) (.cons (.c rfl) (.cons (.o rfl rfl) .nil))) (by decide) (fun _ => .arr rfl rfl (.arr rfl rfl .nil)) (by simp)) ?_
    rintro F1 H1 ⟨_, _, _, _, ⟨c3, rfl, rfl⟩ | ⟨c3, rfl, rfl⟩, hF, hH⟩ <;> ((try simp only [List.set_cons_zero, List.set_cons_succ, updH, posOf, lentArr, killF, killO, killV, AV.has, AV.hasL, AV.emb, AV.embL, OB.emb, embB, List.filter_cons, List.filter_nil, List.getElem?_cons_zero, List.getElem?_cons_succ, List.getD_cons_zero, List.getD_cons_succ, List.drop_succ_cons, List.drop_zero, List.drop_nil, List.contains_cons, List.contains_nil, Nat.reduceBEq, Nat.reduceEqDiff, beq_self_eq_true, Bool.or_false, Bool.false_or, Bool.or_true, Bool.true_or, Bool.false_eq_true, Option.map_some, Option.map_none, List.map_cons, List.map_nil, List.cons_append, List.nil_append, List.append_nil, List.length_cons, List.length_nil, Nat.reduceAdd, Nat.reduceLT, Nat.reduceSub, if_true, if_false, Nat.zero_add, Nat.add_zero, Nat.sub_zero, Nat.lt_irrefl, Nat.not_lt_zero, Nat.zero_lt_one, Nat.lt_add_one] at hF); (try simp only [List.set_cons_zero, List.set_cons_succ, updH, posOf, lentArr, killF, killO, killV, AV.has, AV.hasL, AV.emb, AV.embL, OB.emb, embB, List.filter_cons, List.filter_nil, List.getElem?_cons_zero, List.getElem?_cons_succ, List.getD_cons_zero, List.getD_cons_succ, List.drop_succ_cons, List.drop_zero, List.drop_nil, List.contains_cons, List.contains_nil, Nat.reduceBEq, Nat.reduceEqDiff, beq_self_eq_true, Bool.or_false, Bool.false_or, Bool.or_true, Bool.true_or, Bool.false_eq_true, Option.map_some, Option.map_none, List.map_cons, List.map_nil, List.cons_append, List.nil_append, List.append_nil, List.length_cons, List.length_nil, Nat.reduceAdd, Nat.reduceLT, Nat.reduceSub, if_true, if_false, Nat.zero_add, Nat.add_zero, Nat.sub_zero, Nat.lt_irrefl, Nat.not_lt_zero, Nat.zero_lt_one, Nat.lt_add_one] at hH); subst hF; subst hH; refine ⟨AGX, ?_⟩; refine WN ?_)
    rotate_right
    refine am_ef (i := 2) (by rfl) (by rfl) rfl rfl (ef_call0 true (fun _ => cloneI_a (cs.map fun z => [I z]) w (okInts cs) (by omega)) rfl .fn rfl (by decide) (by kernel_rfl) rfl (fun _ => .cons (.c rfl) .nil) (fun _ _ u Hr ⟨c, _, hu, hH⟩ => by rw [hu, hH]; exact ⟨.o, fun o ho => by rw [List.mem_singleton.1 ho]; exact int_flat _ _⟩)) ?_
    rintro _ _ ⟨_, _, _, ⟨c2, hc2, rfl, rfl⟩, hF, hH⟩
    (try simp only [nsl, Nat.reduceAdd, Nat.reduceLT, Nat.reduceSub] at hF); (try simp only [nsl, Nat.reduceAdd, Nat.reduceLT, Nat.reduceSub] at hH); subst hF; subst hH
    refine ⟨AGX, ?_⟩
    refine WM ?_
    first | refine am_ef (i := 7) (by rfl) (by rfl) rfl rfl (ef_call [2, 3] (fun _ => [.arr 3 1 c2 (cs.map fun z => [I z]), .arr 3 1 1 [[I x.limit]]]) false (fun _ => insI_a [I x.limit] (cs.map fun z => [I z]) i c2 (by omega) (by omega) (by omega)) rfl .fn rfl (by decide) (by kernel_rfl) rfl (fun _ => .cons (.o rfl rfl) (.cons (.c rfl) (.cons (.o rfl rfl) .nil))) (by decide) (fun _ => .arr rfl rfl (.arr rfl rfl .nil)) (by simp)) ?_ | refine am_ef (i := 7) (by rfl) (by rfl) rfl rfl (ef_call [3, 2] (fun _ => [.arr 3 1 c2 (cs.map fun z => [I z]), .arr 3 1 1 [[I x.limit]]]) false (fun _ => insI_a [I x.limit] (cs.map fun z => [I z]) i c2 (by omega) (by omega) (by omega)) rfl .fn rfl (by decide) (by kernel_rfl) rfl (fun _ => .cons (.o rfl rfl) (.cons (.c rfl) (.cons (.o rfl rfl) .nil))) (by decide) (fun _ => .arr rfl rfl (.arr rfl rfl .nil)) (by simp)) ?_
    rintro F1 H1 ⟨_, _, _, _, ⟨c3, rfl, rfl⟩ | ⟨c3, rfl, rfl⟩, hF, hH⟩ <;> ((try simp only [List.set_cons_zero, List.set_cons_succ, updH, posOf, lentArr, killF, killO, killV, AV.has, AV.hasL, AV.emb, AV.embL, OB.emb, embB, List.filter_cons, List.filter_nil, List.getElem?_cons_zero, List.getElem?_cons_succ, List.getD_cons_zero, List.getD_cons_succ, List.drop_succ_cons, List.drop_zero, List.drop_nil, List.contains_cons, List.contains_nil, Nat.reduceBEq, Nat.reduceEqDiff, beq_self_eq_true, Bool.or_false, Bool.false_or, Bool.or_true, Bool.true_or, Bool.false_eq_true, Option.map_some, Option.map_none, List.map_cons, List.map_nil, List.cons_append, List.nil_append, List.append_nil, List.length_cons, List.length_nil, Nat.reduceAdd, Nat.reduceLT, Nat.reduceSub, if_true, if_false, Nat.zero_add, Nat.add_zero, Nat.sub_zero, Nat.lt_irrefl, Nat.not_lt_zero, Nat.zero_lt_one, Nat.lt_add_one] at hF); (try simp only [List.set_cons_zero, List.set_cons_succ, updH, posOf, lentArr, killF, killO, killV, AV.has, AV.hasL, AV.emb, AV.embL, OB.emb, embB, List.filter_cons, List.filter_nil, List.getElem?_cons_zero, List.getElem?_cons_succ, List.getD_cons_zero, List.getD_cons_succ, List.drop_succ_cons, List.drop_zero, List.drop_nil, List.contains_cons, List.contains_nil, Nat.reduceBEq, Nat.reduceEqDiff, beq_self_eq_true, Bool.or_false, Bool.false_or, Bool.or_true, Bool.true_or, Bool.false_eq_true, Option.map_some, Option.map_none, List.map_cons, List.map_nil, List.cons_append, List.nil_append, List.append_nil, List.length_cons, List.length_nil, Nat.reduceAdd, Nat.reduceLT, Nat.reduceSub, if_true, if_false, Nat.zero_add, Nat.add_zero, Nat.sub_zero, Nat.lt_irrefl, Nat.not_lt_zero, Nat.zero_lt_one, Nat.lt_add_one] at hH); subst hF; subst hH; refine ⟨AGX, ?_⟩; refine WN ?_)
  all_goals first
    | (
      exact aret_of (us := [.o 1 0 ((l.map Leg.row).length + 1) cL, .o 2 0 ((cs.map fun z => [I z]).length + 1) c3, .c (I 0)]) [some 1, some 2] (fun _ => .t [.o 0 0 (splL l i x at_).length cL, .o 1 0 (splC cs i x).length c3, .c (I 0)]) (fun _ => [.arr 38 2 cL ((splL l i x at_).map Leg.row), .arr 3 1 c3 ((splC cs i x).map fun z => [I z])]) (.tmp rfl (.tmp rfl (.tmp rfl .nil))) (by decide) (ZNK rfl) (fun _ => .tL (.cons (.o rfl hlL2) (.cons (.o rfl hlI2) (.cons (.c rfl) .nil)))) (fun _ => .arr rfl hset (.arr rfl hci .nil)) (fun _ => ⟨cL, c3, by rw [hsr], by rw [hsr]⟩)
      )
    | (
      exact aret_of (us := [.o 1 0 ((l.map Leg.row).length + 1) cL, .o 3 0 ((cs.map fun z => [I z]).length + 1) c3, .c (I 0)]) [some 1, some 3] (fun _ => .t [.o 0 0 (splL l i x at_).length cL, .o 1 0 (splC cs i x).length c3, .c (I 0)]) (fun _ => [.arr 38 2 cL ((splL l i x at_).map Leg.row), .arr 3 1 c3 ((splC cs i x).map fun z => [I z])]) (.tmp rfl (.tmp rfl (.tmp rfl .nil))) (by decide) (ZNK rfl) (fun _ => .tL (.cons (.o rfl hlL2) (.cons (.o rfl hlI2) (.cons (.c rfl) .nil)))) (fun _ => .arr rfl hset (.arr rfl hci .nil)) (fun _ => ⟨cL, c3, by rw [hsr], by rw [hsr]⟩)
      )
    | (
      exact aret_of (us := [.o 1 0 ((l.map Leg.row).length + 1) cL, .o 4 0 ((cs.map fun z => [I z]).length + 1) c3, .c (I 0)]) [some 1, some 4] (fun _ => .t [.o 0 0 (splL l i x at_).length cL, .o 1 0 (splC cs i x).length c3, .c (I 0)]) (fun _ => [.arr 38 2 cL ((splL l i x at_).map Leg.row), .arr 3 1 c3 ((splC cs i x).map fun z => [I z])]) (.tmp rfl (.tmp rfl (.tmp rfl .nil))) (by decide) (ZNK rfl) (fun _ => .tL (.cons (.o rfl hlL2) (.cons (.o rfl hlI2) (.cons (.c rfl) .nil)))) (fun _ => .arr rfl hset (.arr rfl hci .nil)) (fun _ => ⟨cL, c3, by rw [hsr], by rw [hsr]⟩)
      )
end Go.Proofs.YtdmeohgojdfmoaaGreatDoor

/- The law MotionsStay, walked. -/
namespace Go.Proofs.YtdmeohgojdfmoaaGreatDoor
open Go Go.RowKit
set_option maxRecDepth 100000
theorem ptx_eqk {a b : Pt} : a.x = b.x ∧ a.y = b.y ↔ a = b := by cases a; cases b; simp
theorem eqPx_a (l l' : List Pt) (v v' : Value) (hl : l.length ≤ 1000000000) (hl' : l'.length ≤ 1000000000) : ACalls Tryz.prog 63 [.c (.r v (l.map Pt.row)), .c (.r v' (l'.map Pt.row))] [] fun u H => ∃ b : Bool, u = .c (B b) ∧ H = [] ∧ (b = true ↔ l = l') := by
  have e1 : (l.map Pt.row).length = l.length := by simp
  have e2 : (l'.map Pt.row).length = l'.length := by simp
  refine acalls_of (N := 26) Tryz.func63 rfl rfl (by simp) fun E hE => ?_
  refine WA ?_
  refine WA ?_
  refine aw_if rfl (fun hne => ?_) (fun heq => ?_)
  · refine WA ?_
    exact aret_1 [] _ rfl rfl rfl (by decide) (ZNK rfl) (fun _ => .nil) ⟨_, rfl, rfl, by simp; intro e; rw [e] at hne; omega⟩
  refine ZZ ?_
  refine WA ?_
  refine aw_loopw (fun n F H => ∃ k : Nat, n + k = l.length ∧ l.take k = l'.take k ∧ F = [(0, .c (.r v (l.map Pt.row))), (1, .c (.r v' (l'.map Pt.row))), (12, .c (I (l.map Pt.row).length)), (13, .c (I k))] ∧ H = []) ?_ ?_
  · refine wk_of [] (fun _ => [(0, .c (.r v (l.map Pt.row))), (1, .c (.r v' (l'.map Pt.row))), (12, .c (I (l.map Pt.row).length)), (13, .c (I (0 : Nat)))]) (fun _ => _) (by decide) (ZNL hE) ZCF (fun _ => .nil) (fun _ => ?_)
    exact ⟨l.length, 0, by omega, rfl, rfl, rfl⟩
  rintro n F H ⟨k, hk, ht, rfl, rfl⟩
  refine WA ?_
  refine aw_if rfl (fun hlt => ?_) (fun hge => ?_)
  · obtain ⟨s, hs⟩ : ∃ s, l[k]? = some s := ⟨_, List.getElem?_eq_getElem (by omega)⟩
    obtain ⟨s', hs'⟩ : ∃ s', l'[k]? = some s' := ⟨_, List.getElem?_eq_getElem (by omega)⟩
    have hrow : (l.map Pt.row)[k]? = some (Pt.row s) := by rw [List.getElem?_map, hs]; rfl
    have hrow' : (l'.map Pt.row)[k]? = some (Pt.row s') := by rw [List.getElem?_map, hs']; rfl
    refine WA ?_
    refine ZZ ?_
    refine aw_regionT [(0, none), (1, none), (2, none), (3, none), (4, none), (5, none), (6, none), (7, none), (8, none)] hMixed (by kernel_rfl) ?_
    refine WQ ?_
    refine aw_if rfl (fun hn => ?_) (fun he => ?_)
    · refine WA ?_
      refine aret_1 [] _ rfl rfl rfl (by decide) (ZNK rfl) (fun _ => .nil) ⟨_, rfl, rfl, ?_⟩
      simp only [Bool.false_eq_true, false_iff]
      intro e
      subst e
      rw [hs] at hs'
      exact hn (ptx_eqk.2 (Option.some.inj hs'))
    · refine ZZ ?_
      refine WA ?_
      refine wk_of [] (fun _ => [(0, .c (.r v (l.map Pt.row))), (1, .c (.r v' (l'.map Pt.row))), (12, .c (I (l.map Pt.row).length)), (13, .c (I (k + 1 : Nat)))]) (fun _ => _) (by decide) (ZNL hE) ZCF (fun _ => .nil) (fun _ => ?_)
      exact ⟨n - 1, by omega, k + 1, by omega, by rw [take_nextk hs, take_nextk hs', ht, ptx_eqk.1 (Decidable.not_not.1 he)], rfl, rfl⟩
  refine WA ?_
  refine aret_1 [] _ rfl rfl rfl (by decide) (ZNK rfl) (fun _ => .nil) ⟨_, rfl, rfl, ?_⟩
  rw [List.take_of_length_le (by omega), List.take_of_length_le (by omega)] at ht
  simp [ht]
theorem faultL_50 (l : List Leg) (cs : List Int) : faultL l cs 50 = cornersF l cs := by
  unfold faultL changeF
  split
  · rfl
  · rename_i h; rw [if_pos (by omega)]; omega
theorem splR_le (l : List Leg) (cs : List Int) (leg a : Int) : (splR l cs leg a).1.length ≤ l.length + 2 ∧ (splR l cs leg a).2.length ≤ cs.length + 1 := by
  unfold splR
  split
  · simp only [splL, splC, List.length_append, List.length_take, List.length_cons, List.length_drop]
    omega
  · simp
theorem law_mstay (v : Value) (zs : List Int) (hs : StrOk zs) : ACalls Tryz.prog 10 [.c (.r v (zs.map fun z => [I z]))] [] fun u H => u = .c (B true) := by
  refine acalls_of (N := 98) Tryz.func10 rfl rfl (by simp) fun E hE => ?_
  refine WA ?_
  refine WA ?_
  refine WR ?_
  refine al_ef rfl (ef_call [0] (fun _ => [strm v zs 0]) false (fun _ => leglist_f 6 v zs 0 hs (by omega) (by omega) (by omega) (by omega)) rfl .fn rfl (by decide) (by kernel_rfl) rfl (fun _g => .cons (.p rfl) (.cons (.c rfl) .nil)) (by decide) ZCH (by simp)) ?_
  rintro F1 H1 ⟨_, _, _, _, ⟨vl, l, al, rfl, rfl, hl1l, hl2l, hl3l, hlfl⟩, hF, hH⟩
  (try simp only [List.set_cons_zero, List.set_cons_succ, updH, posOf, lentArr, killF, killO, killV, AV.has, AV.hasL, AV.emb, AV.embL, OB.emb, embB, List.filter_cons, List.filter_nil, List.getElem?_cons_zero, List.getElem?_cons_succ, List.getD_cons_zero, List.getD_cons_succ, List.drop_succ_cons, List.drop_zero, List.drop_nil, List.contains_cons, List.contains_nil, Nat.reduceBEq, Nat.reduceEqDiff, beq_self_eq_true, Bool.or_false, Bool.false_or, Bool.or_true, Bool.true_or, Bool.false_eq_true, Option.map_some, Option.map_none, List.map_cons, List.map_nil, List.cons_append, List.nil_append, List.append_nil, List.length_cons, List.length_nil, Nat.reduceAdd, Nat.reduceLT, Nat.reduceSub, if_true, if_false, Nat.zero_add, Nat.add_zero, Nat.sub_zero, Nat.lt_irrefl, Nat.not_lt_zero, Nat.zero_lt_one, Nat.lt_add_one] at hF); (try simp only [List.set_cons_zero, List.set_cons_succ, updH, posOf, lentArr, killF, killO, killV, AV.has, AV.hasL, AV.emb, AV.embL, OB.emb, embB, List.filter_cons, List.filter_nil, List.getElem?_cons_zero, List.getElem?_cons_succ, List.getD_cons_zero, List.getD_cons_succ, List.drop_succ_cons, List.drop_zero, List.drop_nil, List.contains_cons, List.contains_nil, Nat.reduceBEq, Nat.reduceEqDiff, beq_self_eq_true, Bool.or_false, Bool.false_or, Bool.or_true, Bool.true_or, Bool.false_eq_true, Option.map_some, Option.map_none, List.map_cons, List.map_nil, List.cons_append, List.nil_append, List.append_nil, List.length_cons, List.length_nil, Nat.reduceAdd, Nat.reduceLT, Nat.reduceSub, if_true, if_false, Nat.zero_add, Nat.add_zero, Nat.sub_zero, Nat.lt_irrefl, Nat.not_lt_zero, Nat.zero_lt_one, Nat.lt_add_one] at hH); subst hF; subst hH
  refine WO ?_
  refine al_ef rfl (ef_call [1] (fun _ => [strm v zs 0]) false (fun _ => leglist_f 6 v zs 0 hs (by omega) (by omega) (by omega) (by omega)) rfl .fn rfl (by decide) (by kernel_rfl) rfl (fun _g => .cons (.p rfl) (.cons (.c rfl) .nil)) (by decide) ZCH (by simp)) ?_
  rintro F1 H1 ⟨_, _, _, _, ⟨vl2, l2, al2, rfl, rfl, hl1l2, hl2l2, hl3l2, hlfl2⟩, hF, hH⟩
  (try simp only [List.set_cons_zero, List.set_cons_succ, updH, posOf, lentArr, killF, killO, killV, AV.has, AV.hasL, AV.emb, AV.embL, OB.emb, embB, List.filter_cons, List.filter_nil, List.getElem?_cons_zero, List.getElem?_cons_succ, List.getD_cons_zero, List.getD_cons_succ, List.drop_succ_cons, List.drop_zero, List.drop_nil, List.contains_cons, List.contains_nil, Nat.reduceBEq, Nat.reduceEqDiff, beq_self_eq_true, Bool.or_false, Bool.false_or, Bool.or_true, Bool.true_or, Bool.false_eq_true, Option.map_some, Option.map_none, List.map_cons, List.map_nil, List.cons_append, List.nil_append, List.append_nil, List.length_cons, List.length_nil, Nat.reduceAdd, Nat.reduceLT, Nat.reduceSub, if_true, if_false, Nat.zero_add, Nat.add_zero, Nat.sub_zero, Nat.lt_irrefl, Nat.not_lt_zero, Nat.zero_lt_one, Nat.lt_add_one] at hF); (try simp only [List.set_cons_zero, List.set_cons_succ, updH, posOf, lentArr, killF, killO, killV, AV.has, AV.hasL, AV.emb, AV.embL, OB.emb, embB, List.filter_cons, List.filter_nil, List.getElem?_cons_zero, List.getElem?_cons_succ, List.getD_cons_zero, List.getD_cons_succ, List.drop_succ_cons, List.drop_zero, List.drop_nil, List.contains_cons, List.contains_nil, Nat.reduceBEq, Nat.reduceEqDiff, beq_self_eq_true, Bool.or_false, Bool.false_or, Bool.or_true, Bool.true_or, Bool.false_eq_true, Option.map_some, Option.map_none, List.map_cons, List.map_nil, List.cons_append, List.nil_append, List.append_nil, List.length_cons, List.length_nil, Nat.reduceAdd, Nat.reduceLT, Nat.reduceSub, if_true, if_false, Nat.zero_add, Nat.add_zero, Nat.sub_zero, Nat.lt_irrefl, Nat.not_lt_zero, Nat.zero_lt_one, Nat.lt_add_one] at hH); subst hF; subst hH
  refine WE ?_
  obtain ⟨rfl, rfl⟩ : l = l2 ∧ al = al2 := by rw [← hlfl] at hlfl2; simpa [eq_comm] using hlfl2
  have e1 : (l.map Leg.row).length = l.length := by simp
  refine WR ?_
  refine al_ef rfl (ef_call [0] (fun _ => [strm v zs al]) false (fun _ => cornerlist_f ((l.map Leg.row).length) v zs al hs (by omega) (by omega) (by omega) (by omega)) rfl .fn rfl (by decide) (by kernel_rfl) rfl (fun _g => .cons (.p rfl) (.cons (.c rfl) .nil)) (by decide) ZCH (by simp)) ?_
  rintro F1 H1 ⟨_, _, _, _, ⟨vc, cs, ac, rfl, rfl, hc1cs, hc2cs, hc3cs, hcfcs⟩, hF, hH⟩
  (try simp only [List.set_cons_zero, List.set_cons_succ, updH, posOf, lentArr, killF, killO, killV, AV.has, AV.hasL, AV.emb, AV.embL, OB.emb, embB, List.filter_cons, List.filter_nil, List.getElem?_cons_zero, List.getElem?_cons_succ, List.getD_cons_zero, List.getD_cons_succ, List.drop_succ_cons, List.drop_zero, List.drop_nil, List.contains_cons, List.contains_nil, Nat.reduceBEq, Nat.reduceEqDiff, beq_self_eq_true, Bool.or_false, Bool.false_or, Bool.or_true, Bool.true_or, Bool.false_eq_true, Option.map_some, Option.map_none, List.map_cons, List.map_nil, List.cons_append, List.nil_append, List.append_nil, List.length_cons, List.length_nil, Nat.reduceAdd, Nat.reduceLT, Nat.reduceSub, if_true, if_false, Nat.zero_add, Nat.add_zero, Nat.sub_zero, Nat.lt_irrefl, Nat.not_lt_zero, Nat.zero_lt_one, Nat.lt_add_one] at hF); (try simp only [List.set_cons_zero, List.set_cons_succ, updH, posOf, lentArr, killF, killO, killV, AV.has, AV.hasL, AV.emb, AV.embL, OB.emb, embB, List.filter_cons, List.filter_nil, List.getElem?_cons_zero, List.getElem?_cons_succ, List.getD_cons_zero, List.getD_cons_succ, List.drop_succ_cons, List.drop_zero, List.drop_nil, List.contains_cons, List.contains_nil, Nat.reduceBEq, Nat.reduceEqDiff, beq_self_eq_true, Bool.or_false, Bool.false_or, Bool.or_true, Bool.true_or, Bool.false_eq_true, Option.map_some, Option.map_none, List.map_cons, List.map_nil, List.cons_append, List.nil_append, List.append_nil, List.length_cons, List.length_nil, Nat.reduceAdd, Nat.reduceLT, Nat.reduceSub, if_true, if_false, Nat.zero_add, Nat.add_zero, Nat.sub_zero, Nat.lt_irrefl, Nat.not_lt_zero, Nat.zero_lt_one, Nat.lt_add_one] at hH); subst hF; subst hH
  refine WO ?_
  refine al_ef rfl (ef_call [1] (fun _ => [strm v zs al]) false (fun _ => cornerlist_f ((l.map Leg.row).length) v zs al hs (by omega) (by omega) (by omega) (by omega)) rfl .fn rfl (by decide) (by kernel_rfl) rfl (fun _g => .cons (.p rfl) (.cons (.c rfl) .nil)) (by decide) ZCH (by simp)) ?_
  rintro F1 H1 ⟨_, _, _, _, ⟨vc2, cs2, ac2, rfl, rfl, hc1cs2, hc2cs2, hc3cs2, hcfcs2⟩, hF, hH⟩
  (try simp only [List.set_cons_zero, List.set_cons_succ, updH, posOf, lentArr, killF, killO, killV, AV.has, AV.hasL, AV.emb, AV.embL, OB.emb, embB, List.filter_cons, List.filter_nil, List.getElem?_cons_zero, List.getElem?_cons_succ, List.getD_cons_zero, List.getD_cons_succ, List.drop_succ_cons, List.drop_zero, List.drop_nil, List.contains_cons, List.contains_nil, Nat.reduceBEq, Nat.reduceEqDiff, beq_self_eq_true, Bool.or_false, Bool.false_or, Bool.or_true, Bool.true_or, Bool.false_eq_true, Option.map_some, Option.map_none, List.map_cons, List.map_nil, List.cons_append, List.nil_append, List.append_nil, List.length_cons, List.length_nil, Nat.reduceAdd, Nat.reduceLT, Nat.reduceSub, if_true, if_false, Nat.zero_add, Nat.add_zero, Nat.sub_zero, Nat.lt_irrefl, Nat.not_lt_zero, Nat.zero_lt_one, Nat.lt_add_one] at hF); (try simp only [List.set_cons_zero, List.set_cons_succ, updH, posOf, lentArr, killF, killO, killV, AV.has, AV.hasL, AV.emb, AV.embL, OB.emb, embB, List.filter_cons, List.filter_nil, List.getElem?_cons_zero, List.getElem?_cons_succ, List.getD_cons_zero, List.getD_cons_succ, List.drop_succ_cons, List.drop_zero, List.drop_nil, List.contains_cons, List.contains_nil, Nat.reduceBEq, Nat.reduceEqDiff, beq_self_eq_true, Bool.or_false, Bool.false_or, Bool.or_true, Bool.true_or, Bool.false_eq_true, Option.map_some, Option.map_none, List.map_cons, List.map_nil, List.cons_append, List.nil_append, List.append_nil, List.length_cons, List.length_nil, Nat.reduceAdd, Nat.reduceLT, Nat.reduceSub, if_true, if_false, Nat.zero_add, Nat.add_zero, Nat.sub_zero, Nat.lt_irrefl, Nat.not_lt_zero, Nat.zero_lt_one, Nat.lt_add_one] at hH); subst hF; subst hH
  refine WE ?_
  obtain ⟨rfl, rfl⟩ : cs = cs2 ∧ ac = ac2 := by rw [← hcfcs] at hcfcs2; simpa [eq_comm] using hcfcs2
  have e2 : (cs.map fun z => [I z]).length = cs.length := by simp
  by_cases hcf : cornersF l cs = 0
  · obtain ⟨W, hW⟩ : ∃ W, W = speedsS l cs 50 := ⟨_, rfl⟩
    have hWl : W.length = l.length + 1 := by rw [hW, speedsS_len]
    refine WR ?_
    refine al_ef rfl (ef_call0 false (fun _ => speedsx_o l cs 50 vl vc (by omega) (by omega) (by rw [faultL_50]; exact hcf)) rfl .fn rfl (by decide) (by kernel_rfl) rfl (fun _ => C0 rfl) (by simp)) ?_
    rintro _ _ ⟨_, _, _, ⟨k1, hk1, rfl, rfl⟩, hF, hH⟩
    rw [← hW] at hH
    (try simp only [nsl, Nat.reduceAdd, Nat.reduceLT, Nat.reduceSub] at hF); (try simp only [nsl, Nat.reduceAdd, Nat.reduceLT, Nat.reduceSub] at hH); subst hF; subst hH
    refine WE ?_
    refine WR ?_
    refine al_ef rfl (ef_callp [2] (fun _ => [.arr 3 1 k1 (W.map fun z => [I z])]) false (fun _ => spoilI_a W k1 (by omega)) rfl .fn rfl (by decide) (by kernel_rfl) rfl (fun _ => .cons (.o rfl hWl.symm) .nil) (by decide) (fun _ => .arr rfl rfl .nil) (by simp)) ?_
    rintro F1 H1 ⟨_, _, _, _, ⟨sp, hsp, rfl, rfl⟩, hF, hH⟩
    rw [killF_nil] at hF
    (try simp only [List.set_cons_zero, List.set_cons_succ, updH, posOf, lentArr, killF, killO, killV, AV.has, AV.hasL, AV.emb, AV.embL, OB.emb, embB, List.filter_cons, List.filter_nil, List.getElem?_cons_zero, List.getElem?_cons_succ, List.getD_cons_zero, List.getD_cons_succ, List.drop_succ_cons, List.drop_zero, List.drop_nil, List.contains_cons, List.contains_nil, Nat.reduceBEq, Nat.reduceEqDiff, beq_self_eq_true, Bool.or_false, Bool.false_or, Bool.or_true, Bool.true_or, Bool.false_eq_true, Option.map_some, Option.map_none, List.map_cons, List.map_nil, List.cons_append, List.nil_append, List.append_nil, List.length_cons, List.length_nil, Nat.reduceAdd, Nat.reduceLT, Nat.reduceSub, if_true, if_false, Nat.zero_add, Nat.add_zero, Nat.sub_zero, Nat.lt_irrefl, Nat.not_lt_zero, Nat.zero_lt_one, Nat.lt_add_one] at hF); (try simp only [List.set_cons_zero, List.set_cons_succ, updH, posOf, lentArr, killF, killO, killV, AV.has, AV.hasL, AV.emb, AV.embL, OB.emb, embB, List.filter_cons, List.filter_nil, List.getElem?_cons_zero, List.getElem?_cons_succ, List.getD_cons_zero, List.getD_cons_succ, List.drop_succ_cons, List.drop_zero, List.drop_nil, List.contains_cons, List.contains_nil, Nat.reduceBEq, Nat.reduceEqDiff, beq_self_eq_true, Bool.or_false, Bool.false_or, Bool.or_true, Bool.true_or, Bool.false_eq_true, Option.map_some, Option.map_none, List.map_cons, List.map_nil, List.cons_append, List.nil_append, List.append_nil, List.length_cons, List.length_nil, Nat.reduceAdd, Nat.reduceLT, Nat.reduceSub, if_true, if_false, Nat.zero_add, Nat.add_zero, Nat.sub_zero, Nat.lt_irrefl, Nat.not_lt_zero, Nat.zero_lt_one, Nat.lt_add_one] at hH); subst hF; subst hH
    refine WE ?_
    refine aw_wk (wk_of (K := fun F H => F = [(3, .p 0 0 0), (4, .p 1 0 0), (5, .c (legs_r vl l)), (6, .c (legs_r vl2 l)), (7, .c (ints_r vc cs)), (8, .c (ints_r vc2 cs))] ∧ H = [strm v zs ac, strm v zs ac]) [some 0, some 1] (fun _ => [(3, .p 0 0 0), (4, .p 1 0 0), (5, .c (legs_r vl l)), (6, .c (legs_r vl2 l)), (7, .c (ints_r vc cs)), (8, .c (ints_r vc2 cs))]) (fun _ => [strm v zs ac, strm v zs ac]) (by decide) (ZNL hE) ZCF ZCH (fun _ => ⟨rfl, rfl⟩)) ?_
    rintro F H ⟨rfl, rfl⟩
    refine WR ?_
    refine al_ef rfl (ef_call0 false (fun _ => back_o l cs vl vc (by omega) (by omega) hcf) rfl .fn rfl (by decide) (by kernel_rfl) rfl (fun _ => C0 rfl) (by simp)) ?_
    rintro _ _ ⟨_, _, _, ⟨k1, k2, hk1, hk2, rfl, rfl⟩, hF, hH⟩
    (try simp only [nsl, Nat.reduceAdd, Nat.reduceLT, Nat.reduceSub] at hF); (try simp only [nsl, Nat.reduceAdd, Nat.reduceLT, Nat.reduceSub] at hH); subst hF; subst hH
    refine WE ?_
    have hrl : l.reverse.length = l.length := by simp
    have hrc : cs.reverse.length = cs.length := by simp
    refine WR ?_
    refine al_ef rfl (ef_callp [2] (fun _ => [.arr 38 2 k1 (l.reverse.map Leg.row)]) false (fun _ => spoilL_a l.reverse k1 (by omega)) rfl .fn rfl (by decide) (by kernel_rfl) rfl (fun _ => .cons (.o rfl hrl.symm) .nil) (by decide) (fun _ => .arr rfl rfl .nil) (by simp)) ?_
    rintro F1 H1 ⟨_, _, _, _, ⟨sp, hsp, rfl, rfl⟩, hF, hH⟩
    rw [killF_nil] at hF
    (try simp only [List.set_cons_zero, List.set_cons_succ, updH, posOf, lentArr, killF, killO, killV, AV.has, AV.hasL, AV.emb, AV.embL, OB.emb, embB, List.filter_cons, List.filter_nil, List.getElem?_cons_zero, List.getElem?_cons_succ, List.getD_cons_zero, List.getD_cons_succ, List.drop_succ_cons, List.drop_zero, List.drop_nil, List.contains_cons, List.contains_nil, Nat.reduceBEq, Nat.reduceEqDiff, beq_self_eq_true, Bool.or_false, Bool.false_or, Bool.or_true, Bool.true_or, Bool.false_eq_true, Option.map_some, Option.map_none, List.map_cons, List.map_nil, List.cons_append, List.nil_append, List.append_nil, List.length_cons, List.length_nil, Nat.reduceAdd, Nat.reduceLT, Nat.reduceSub, if_true, if_false, Nat.zero_add, Nat.add_zero, Nat.sub_zero, Nat.lt_irrefl, Nat.not_lt_zero, Nat.zero_lt_one, Nat.lt_add_one] at hF); (try simp only [List.set_cons_zero, List.set_cons_succ, updH, posOf, lentArr, killF, killO, killV, AV.has, AV.hasL, AV.emb, AV.embL, OB.emb, embB, List.filter_cons, List.filter_nil, List.getElem?_cons_zero, List.getElem?_cons_succ, List.getD_cons_zero, List.getD_cons_succ, List.drop_succ_cons, List.drop_zero, List.drop_nil, List.contains_cons, List.contains_nil, Nat.reduceBEq, Nat.reduceEqDiff, beq_self_eq_true, Bool.or_false, Bool.false_or, Bool.or_true, Bool.true_or, Bool.false_eq_true, Option.map_some, Option.map_none, List.map_cons, List.map_nil, List.cons_append, List.nil_append, List.append_nil, List.length_cons, List.length_nil, Nat.reduceAdd, Nat.reduceLT, Nat.reduceSub, if_true, if_false, Nat.zero_add, Nat.add_zero, Nat.sub_zero, Nat.lt_irrefl, Nat.not_lt_zero, Nat.zero_lt_one, Nat.lt_add_one] at hH); subst hF; subst hH
    refine WE ?_
    refine WR ?_
    refine al_ef rfl (ef_callp [3] (fun _ => [.arr 3 1 k2 (cs.reverse.map fun z => [I z])]) false (fun _ => spoilI_a cs.reverse k2 (by omega)) rfl .fn rfl (by decide) (by kernel_rfl) rfl (fun _ => .cons (.o rfl hrc.symm) .nil) (by decide) (fun _ => .arr rfl rfl .nil) (by simp)) ?_
    rintro F1 H1 ⟨_, _, _, _, ⟨sp, hsp, rfl, rfl⟩, hF, hH⟩
    rw [killF_nil] at hF
    (try simp only [List.set_cons_zero, List.set_cons_succ, updH, posOf, lentArr, killF, killO, killV, AV.has, AV.hasL, AV.emb, AV.embL, OB.emb, embB, List.filter_cons, List.filter_nil, List.getElem?_cons_zero, List.getElem?_cons_succ, List.getD_cons_zero, List.getD_cons_succ, List.drop_succ_cons, List.drop_zero, List.drop_nil, List.contains_cons, List.contains_nil, Nat.reduceBEq, Nat.reduceEqDiff, beq_self_eq_true, Bool.or_false, Bool.false_or, Bool.or_true, Bool.true_or, Bool.false_eq_true, Option.map_some, Option.map_none, List.map_cons, List.map_nil, List.cons_append, List.nil_append, List.append_nil, List.length_cons, List.length_nil, Nat.reduceAdd, Nat.reduceLT, Nat.reduceSub, if_true, if_false, Nat.zero_add, Nat.add_zero, Nat.sub_zero, Nat.lt_irrefl, Nat.not_lt_zero, Nat.zero_lt_one, Nat.lt_add_one] at hF); (try simp only [List.set_cons_zero, List.set_cons_succ, updH, posOf, lentArr, killF, killO, killV, AV.has, AV.hasL, AV.emb, AV.embL, OB.emb, embB, List.filter_cons, List.filter_nil, List.getElem?_cons_zero, List.getElem?_cons_succ, List.getD_cons_zero, List.getD_cons_succ, List.drop_succ_cons, List.drop_zero, List.drop_nil, List.contains_cons, List.contains_nil, Nat.reduceBEq, Nat.reduceEqDiff, beq_self_eq_true, Bool.or_false, Bool.false_or, Bool.or_true, Bool.true_or, Bool.false_eq_true, Option.map_some, Option.map_none, List.map_cons, List.map_nil, List.cons_append, List.nil_append, List.append_nil, List.length_cons, List.length_nil, Nat.reduceAdd, Nat.reduceLT, Nat.reduceSub, if_true, if_false, Nat.zero_add, Nat.add_zero, Nat.sub_zero, Nat.lt_irrefl, Nat.not_lt_zero, Nat.zero_lt_one, Nat.lt_add_one] at hH); subst hF; subst hH
    refine WE ?_
    refine aw_wk (wk_of (K := fun F H => F = [(3, .p 0 0 0), (4, .p 1 0 0), (5, .c (legs_r vl l)), (6, .c (legs_r vl2 l)), (7, .c (ints_r vc cs)), (8, .c (ints_r vc2 cs))] ∧ H = [strm v zs ac, strm v zs ac]) [some 0, some 1] (fun _ => [(3, .p 0 0 0), (4, .p 1 0 0), (5, .c (legs_r vl l)), (6, .c (legs_r vl2 l)), (7, .c (ints_r vc cs)), (8, .c (ints_r vc2 cs))]) (fun _ => [strm v zs ac, strm v zs ac]) (by decide) (ZNL hE) ZCF ZCH (fun _ => ⟨rfl, rfl⟩)) ?_
    rintro F H ⟨rfl, rfl⟩
    by_cases hsv : splV l cs 0 1 = 0
    · obtain ⟨Ls, hLs⟩ : ∃ W, W = (splR l cs 0 1).1 := ⟨_, rfl⟩
      obtain ⟨Cs, hCs⟩ : ∃ W, W = (splR l cs 0 1).2 := ⟨_, rfl⟩
      have hLl : Ls.length ≤ 1000000 := by rw [hLs]; have := splR_le l cs 0 1; omega
      have hCl : Cs.length ≤ 1000000 := by rw [hCs]; have := splR_le l cs 0 1; omega
      refine WR ?_
      refine al_ef rfl (ef_call0 false (fun _ => split_o l cs vl vc 0 1 (by omega) (by omega) hsv) rfl .fn rfl (by decide) (by kernel_rfl) rfl (fun _ => C0 rfl) (by simp)) ?_
      rintro _ _ ⟨_, _, _, ⟨k1, k2, rfl, rfl⟩, hF, hH⟩
      rw [← hLs] at hF hH
      rw [← hCs] at hF hH
      (try simp only [nsl, Nat.reduceAdd, Nat.reduceLT, Nat.reduceSub] at hF); (try simp only [nsl, Nat.reduceAdd, Nat.reduceLT, Nat.reduceSub] at hH); subst hF; subst hH
      refine WE ?_
      refine WR ?_
      refine al_ef rfl (ef_callp [2] (fun _ => [.arr 38 2 k1 (Ls.map Leg.row)]) false (fun _ => spoilL_a Ls k1 (by omega)) rfl .fn rfl (by decide) (by kernel_rfl) rfl (fun _ => .cons (.o rfl rfl) .nil) (by decide) (fun _ => .arr rfl rfl .nil) (by simp)) ?_
      rintro F1 H1 ⟨_, _, _, _, ⟨sp, hsp, rfl, rfl⟩, hF, hH⟩
      rw [killF_nil] at hF
      (try simp only [List.set_cons_zero, List.set_cons_succ, updH, posOf, lentArr, killF, killO, killV, AV.has, AV.hasL, AV.emb, AV.embL, OB.emb, embB, List.filter_cons, List.filter_nil, List.getElem?_cons_zero, List.getElem?_cons_succ, List.getD_cons_zero, List.getD_cons_succ, List.drop_succ_cons, List.drop_zero, List.drop_nil, List.contains_cons, List.contains_nil, Nat.reduceBEq, Nat.reduceEqDiff, beq_self_eq_true, Bool.or_false, Bool.false_or, Bool.or_true, Bool.true_or, Bool.false_eq_true, Option.map_some, Option.map_none, List.map_cons, List.map_nil, List.cons_append, List.nil_append, List.append_nil, List.length_cons, List.length_nil, Nat.reduceAdd, Nat.reduceLT, Nat.reduceSub, if_true, if_false, Nat.zero_add, Nat.add_zero, Nat.sub_zero, Nat.lt_irrefl, Nat.not_lt_zero, Nat.zero_lt_one, Nat.lt_add_one] at hF); (try simp only [List.set_cons_zero, List.set_cons_succ, updH, posOf, lentArr, killF, killO, killV, AV.has, AV.hasL, AV.emb, AV.embL, OB.emb, embB, List.filter_cons, List.filter_nil, List.getElem?_cons_zero, List.getElem?_cons_succ, List.getD_cons_zero, List.getD_cons_succ, List.drop_succ_cons, List.drop_zero, List.drop_nil, List.contains_cons, List.contains_nil, Nat.reduceBEq, Nat.reduceEqDiff, beq_self_eq_true, Bool.or_false, Bool.false_or, Bool.or_true, Bool.true_or, Bool.false_eq_true, Option.map_some, Option.map_none, List.map_cons, List.map_nil, List.cons_append, List.nil_append, List.append_nil, List.length_cons, List.length_nil, Nat.reduceAdd, Nat.reduceLT, Nat.reduceSub, if_true, if_false, Nat.zero_add, Nat.add_zero, Nat.sub_zero, Nat.lt_irrefl, Nat.not_lt_zero, Nat.zero_lt_one, Nat.lt_add_one] at hH); subst hF; subst hH
      refine WE ?_
      refine WR ?_
      refine al_ef rfl (ef_callp [3] (fun _ => [.arr 3 1 k2 (Cs.map fun z => [I z])]) false (fun _ => spoilI_a Cs k2 (by omega)) rfl .fn rfl (by decide) (by kernel_rfl) rfl (fun _ => .cons (.o rfl rfl) .nil) (by decide) (fun _ => .arr rfl rfl .nil) (by simp)) ?_
      rintro F1 H1 ⟨_, _, _, _, ⟨sp, hsp, rfl, rfl⟩, hF, hH⟩
      rw [killF_nil] at hF
      (try simp only [List.set_cons_zero, List.set_cons_succ, updH, posOf, lentArr, killF, killO, killV, AV.has, AV.hasL, AV.emb, AV.embL, OB.emb, embB, List.filter_cons, List.filter_nil, List.getElem?_cons_zero, List.getElem?_cons_succ, List.getD_cons_zero, List.getD_cons_succ, List.drop_succ_cons, List.drop_zero, List.drop_nil, List.contains_cons, List.contains_nil, Nat.reduceBEq, Nat.reduceEqDiff, beq_self_eq_true, Bool.or_false, Bool.false_or, Bool.or_true, Bool.true_or, Bool.false_eq_true, Option.map_some, Option.map_none, List.map_cons, List.map_nil, List.cons_append, List.nil_append, List.append_nil, List.length_cons, List.length_nil, Nat.reduceAdd, Nat.reduceLT, Nat.reduceSub, if_true, if_false, Nat.zero_add, Nat.add_zero, Nat.sub_zero, Nat.lt_irrefl, Nat.not_lt_zero, Nat.zero_lt_one, Nat.lt_add_one] at hF); (try simp only [List.set_cons_zero, List.set_cons_succ, updH, posOf, lentArr, killF, killO, killV, AV.has, AV.hasL, AV.emb, AV.embL, OB.emb, embB, List.filter_cons, List.filter_nil, List.getElem?_cons_zero, List.getElem?_cons_succ, List.getD_cons_zero, List.getD_cons_succ, List.drop_succ_cons, List.drop_zero, List.drop_nil, List.contains_cons, List.contains_nil, Nat.reduceBEq, Nat.reduceEqDiff, beq_self_eq_true, Bool.or_false, Bool.false_or, Bool.or_true, Bool.true_or, Bool.false_eq_true, Option.map_some, Option.map_none, List.map_cons, List.map_nil, List.cons_append, List.nil_append, List.append_nil, List.length_cons, List.length_nil, Nat.reduceAdd, Nat.reduceLT, Nat.reduceSub, if_true, if_false, Nat.zero_add, Nat.add_zero, Nat.sub_zero, Nat.lt_irrefl, Nat.not_lt_zero, Nat.zero_lt_one, Nat.lt_add_one] at hH); subst hF; subst hH
      refine WE ?_
      refine aw_wk (wk_of (K := fun F H => F = [(3, .p 0 0 0), (4, .p 1 0 0), (5, .c (legs_r vl l)), (6, .c (legs_r vl2 l)), (7, .c (ints_r vc cs)), (8, .c (ints_r vc2 cs))] ∧ H = [strm v zs ac, strm v zs ac]) [some 0, some 1] (fun _ => [(3, .p 0 0 0), (4, .p 1 0 0), (5, .c (legs_r vl l)), (6, .c (legs_r vl2 l)), (7, .c (ints_r vc cs)), (8, .c (ints_r vc2 cs))]) (fun _ => [strm v zs ac, strm v zs ac]) (by decide) (ZNL hE) ZCF ZCH (fun _ => ⟨rfl, rfl⟩)) ?_
      rintro F H ⟨rfl, rfl⟩
      refine WR ?_
      refine al_ef rfl (ef_call [0] (fun _ => [strm v zs ac]) false (fun _ => ahead_f v zs ac hs (by omega) (by omega)) rfl .fn rfl (by decide) (by kernel_rfl) rfl (fun _g => .cons (.p rfl) .nil) (by decide) ZCH (by simp)) ?_
      rintro F1 H1 ⟨_, _, _, _, ⟨vp, pl, pb, ap, rfl, rfl, hp1pl, hp2pl, hp3pl, hpfpl⟩, hF, hH⟩
      (try simp only [List.set_cons_zero, List.set_cons_succ, updH, posOf, lentArr, killF, killO, killV, AV.has, AV.hasL, AV.emb, AV.embL, OB.emb, embB, List.filter_cons, List.filter_nil, List.getElem?_cons_zero, List.getElem?_cons_succ, List.getD_cons_zero, List.getD_cons_succ, List.drop_succ_cons, List.drop_zero, List.drop_nil, List.contains_cons, List.contains_nil, Nat.reduceBEq, Nat.reduceEqDiff, beq_self_eq_true, Bool.or_false, Bool.false_or, Bool.or_true, Bool.true_or, Bool.false_eq_true, Option.map_some, Option.map_none, List.map_cons, List.map_nil, List.cons_append, List.nil_append, List.append_nil, List.length_cons, List.length_nil, Nat.reduceAdd, Nat.reduceLT, Nat.reduceSub, if_true, if_false, Nat.zero_add, Nat.add_zero, Nat.sub_zero, Nat.lt_irrefl, Nat.not_lt_zero, Nat.zero_lt_one, Nat.lt_add_one] at hF); (try simp only [List.set_cons_zero, List.set_cons_succ, updH, posOf, lentArr, killF, killO, killV, AV.has, AV.hasL, AV.emb, AV.embL, OB.emb, embB, List.filter_cons, List.filter_nil, List.getElem?_cons_zero, List.getElem?_cons_succ, List.getD_cons_zero, List.getD_cons_succ, List.drop_succ_cons, List.drop_zero, List.drop_nil, List.contains_cons, List.contains_nil, Nat.reduceBEq, Nat.reduceEqDiff, beq_self_eq_true, Bool.or_false, Bool.false_or, Bool.or_true, Bool.true_or, Bool.false_eq_true, Option.map_some, Option.map_none, List.map_cons, List.map_nil, List.cons_append, List.nil_append, List.append_nil, List.length_cons, List.length_nil, Nat.reduceAdd, Nat.reduceLT, Nat.reduceSub, if_true, if_false, Nat.zero_add, Nat.add_zero, Nat.sub_zero, Nat.lt_irrefl, Nat.not_lt_zero, Nat.zero_lt_one, Nat.lt_add_one] at hH); subst hF; subst hH
      refine WO ?_
      refine al_ef rfl (ef_call [1] (fun _ => [strm v zs ac]) false (fun _ => ahead_f v zs ac hs (by omega) (by omega)) rfl .fn rfl (by decide) (by kernel_rfl) rfl (fun _g => .cons (.p rfl) .nil) (by decide) ZCH (by simp)) ?_
      rintro F1 H1 ⟨_, _, _, _, ⟨vp2, pl2, pb2, ap2, rfl, rfl, hp1pl2, hp2pl2, hp3pl2, hpfpl2⟩, hF, hH⟩
      (try simp only [List.set_cons_zero, List.set_cons_succ, updH, posOf, lentArr, killF, killO, killV, AV.has, AV.hasL, AV.emb, AV.embL, OB.emb, embB, List.filter_cons, List.filter_nil, List.getElem?_cons_zero, List.getElem?_cons_succ, List.getD_cons_zero, List.getD_cons_succ, List.drop_succ_cons, List.drop_zero, List.drop_nil, List.contains_cons, List.contains_nil, Nat.reduceBEq, Nat.reduceEqDiff, beq_self_eq_true, Bool.or_false, Bool.false_or, Bool.or_true, Bool.true_or, Bool.false_eq_true, Option.map_some, Option.map_none, List.map_cons, List.map_nil, List.cons_append, List.nil_append, List.append_nil, List.length_cons, List.length_nil, Nat.reduceAdd, Nat.reduceLT, Nat.reduceSub, if_true, if_false, Nat.zero_add, Nat.add_zero, Nat.sub_zero, Nat.lt_irrefl, Nat.not_lt_zero, Nat.zero_lt_one, Nat.lt_add_one] at hF); (try simp only [List.set_cons_zero, List.set_cons_succ, updH, posOf, lentArr, killF, killO, killV, AV.has, AV.hasL, AV.emb, AV.embL, OB.emb, embB, List.filter_cons, List.filter_nil, List.getElem?_cons_zero, List.getElem?_cons_succ, List.getD_cons_zero, List.getD_cons_succ, List.drop_succ_cons, List.drop_zero, List.drop_nil, List.contains_cons, List.contains_nil, Nat.reduceBEq, Nat.reduceEqDiff, beq_self_eq_true, Bool.or_false, Bool.false_or, Bool.or_true, Bool.true_or, Bool.false_eq_true, Option.map_some, Option.map_none, List.map_cons, List.map_nil, List.cons_append, List.nil_append, List.append_nil, List.length_cons, List.length_nil, Nat.reduceAdd, Nat.reduceLT, Nat.reduceSub, if_true, if_false, Nat.zero_add, Nat.add_zero, Nat.sub_zero, Nat.lt_irrefl, Nat.not_lt_zero, Nat.zero_lt_one, Nat.lt_add_one] at hH); subst hF; subst hH
      refine WE ?_
      obtain ⟨rfl, rfl, rfl⟩ : pl = pl2 ∧ pb = pb2 ∧ ap = ap2 := by rw [← hpfpl] at hpfpl2; simpa [eq_comm] using hpfpl2
      by_cases hmv : movF pl pb 50 = 0
      · obtain ⟨Lp, hLp⟩ : ∃ W, W = legsPt pl pb 50 := ⟨_, rfl⟩
        refine WR ?_
        refine al_ef rfl (ef_call0 false (fun _ => legs_o pl vp pb 50 hmv) rfl .fn rfl (by decide) (by kernel_rfl) rfl (fun _ => C0 rfl) (by simp)) ?_
        rintro _ _ ⟨_, _, _, ⟨k1, hk1, rfl, rfl⟩, hF, hH⟩
        rw [← hLp] at hF hH
        (try simp only [nsl, Nat.reduceAdd, Nat.reduceLT, Nat.reduceSub] at hF); (try simp only [nsl, Nat.reduceAdd, Nat.reduceLT, Nat.reduceSub] at hH); subst hF; subst hH
        refine WE ?_
        have hLl : Lp.length ≤ 1000000 := by
          obtain ⟨hpq, -⟩ := movF_ok hmv
          obtain ⟨d1, -⟩ := difs_ok (pathF_ok hpq).1
          rw [hLp, legsPt, List.length_map]; omega
        refine WR ?_
        refine al_ef rfl (ef_callp [4] (fun _ => [.arr 38 2 k1 (Lp.map Leg.row)]) false (fun _ => spoilL_a Lp k1 (by omega)) rfl .fn rfl (by decide) (by kernel_rfl) rfl (fun _ => .cons (.o rfl rfl) .nil) (by decide) (fun _ => .arr rfl rfl .nil) (by simp)) ?_
        rintro F1 H1 ⟨_, _, _, _, ⟨sp, hsp, rfl, rfl⟩, hF, hH⟩
        rw [killF_nil] at hF
        (try simp only [List.set_cons_zero, List.set_cons_succ, updH, posOf, lentArr, killF, killO, killV, AV.has, AV.hasL, AV.emb, AV.embL, OB.emb, embB, List.filter_cons, List.filter_nil, List.getElem?_cons_zero, List.getElem?_cons_succ, List.getD_cons_zero, List.getD_cons_succ, List.drop_succ_cons, List.drop_zero, List.drop_nil, List.contains_cons, List.contains_nil, Nat.reduceBEq, Nat.reduceEqDiff, beq_self_eq_true, Bool.or_false, Bool.false_or, Bool.or_true, Bool.true_or, Bool.false_eq_true, Option.map_some, Option.map_none, List.map_cons, List.map_nil, List.cons_append, List.nil_append, List.append_nil, List.length_cons, List.length_nil, Nat.reduceAdd, Nat.reduceLT, Nat.reduceSub, if_true, if_false, Nat.zero_add, Nat.add_zero, Nat.sub_zero, Nat.lt_irrefl, Nat.not_lt_zero, Nat.zero_lt_one, Nat.lt_add_one] at hF); (try simp only [List.set_cons_zero, List.set_cons_succ, updH, posOf, lentArr, killF, killO, killV, AV.has, AV.hasL, AV.emb, AV.embL, OB.emb, embB, List.filter_cons, List.filter_nil, List.getElem?_cons_zero, List.getElem?_cons_succ, List.getD_cons_zero, List.getD_cons_succ, List.drop_succ_cons, List.drop_zero, List.drop_nil, List.contains_cons, List.contains_nil, Nat.reduceBEq, Nat.reduceEqDiff, beq_self_eq_true, Bool.or_false, Bool.false_or, Bool.or_true, Bool.true_or, Bool.false_eq_true, Option.map_some, Option.map_none, List.map_cons, List.map_nil, List.cons_append, List.nil_append, List.append_nil, List.length_cons, List.length_nil, Nat.reduceAdd, Nat.reduceLT, Nat.reduceSub, if_true, if_false, Nat.zero_add, Nat.add_zero, Nat.sub_zero, Nat.lt_irrefl, Nat.not_lt_zero, Nat.zero_lt_one, Nat.lt_add_one] at hH); subst hF; subst hH
        refine WE ?_
        refine WR ?_
        refine al_ef rfl (ef_call0 false (fun _ => eqL_a l l vl vl2 (by omega) (by omega)) rfl .fn rfl (by decide) (by kernel_rfl) rfl (fun _ => C0 rfl) (by simp)) ?_
        rintro _ _ ⟨_, _, _, ⟨bm, rfl, rfl, hbm⟩, hF, hH⟩
        obtain rfl : bm = true := hbm.2 rfl
        (try simp only [nsl, Nat.reduceAdd, Nat.reduceLT, Nat.reduceSub] at hF); (try simp only [nsl, Nat.reduceAdd, Nat.reduceLT, Nat.reduceSub] at hH); subst hF; subst hH
        refine WO ?_
        first | refine ZS ?_ | (refine G1 rfl ?_; refine al_ef rfl (ef_call0 false (fun _ => eqI_a cs cs vc vc2 (by omega) (by omega)) rfl .fn rfl (by decide) (by kernel_rfl) rfl (fun _ => C0 rfl) (by simp)) ?_; rintro _ _ ⟨_, _, _, ⟨bm, rfl, rfl, hbm⟩, hF, hH⟩; obtain rfl : bm = true := hbm.2 rfl; (try simp only [nsl, Nat.reduceAdd, Nat.reduceLT, Nat.reduceSub] at hF); (try simp only [nsl, Nat.reduceAdd, Nat.reduceLT, Nat.reduceSub] at hH); subst hF; subst hH) | skip
        refine WO ?_
        first | refine ZS ?_ | (refine G1 rfl ?_; refine al_ef rfl (ef_call0 false (fun _ => eqPx_a pl pl vp vp2 (by omega) (by omega)) rfl .fn rfl (by decide) (by kernel_rfl) rfl (fun _ => C0 rfl) (by simp)) ?_; rintro _ _ ⟨_, _, _, ⟨bm, rfl, rfl, hbm⟩, hF, hH⟩; obtain rfl : bm = true := hbm.2 rfl; (try simp only [nsl, Nat.reduceAdd, Nat.reduceLT, Nat.reduceSub] at hF); (try simp only [nsl, Nat.reduceAdd, Nat.reduceLT, Nat.reduceSub] at hH); subst hF; subst hH) | skip
        refine WO ?_
        first | refine ZS ?_ | (refine G1 rfl ?_; refine al_ef rfl (ef_call0 false (fun _ => ready_a) rfl .fn rfl (by decide) (by kernel_rfl) rfl (fun _ => C0 rfl) (by simp)) ?_; rintro _ _ ⟨_, _, _, ⟨rfl, rfl⟩, hF, hH⟩; (try simp only [nsl, Nat.reduceAdd, Nat.reduceLT, Nat.reduceSub] at hF); (try simp only [nsl, Nat.reduceAdd, Nat.reduceLT, Nat.reduceSub] at hH); subst hF; subst hH) | skip
        refine WE ?_
        exact aret_1 [] _ rfl rfl rfl (by decide) (ZNK rfl) (fun _ => .nil) rfl
      · refine WR ?_
        refine al_ef rfl (ef_call0 false (fun _ => legs_a pl vp pb 50) rfl .fn rfl (by decide) (by kernel_rfl) rfl (fun _ => C0 rfl) (by simp)) ?_
        rintro _ _ ⟨_, _, _, ⟨va, rfl, rfl⟩, hF, hH⟩
        rw [if_neg hmv] at hF
        (try simp only [nsl, Nat.reduceAdd, Nat.reduceLT, Nat.reduceSub] at hF); (try simp only [nsl, Nat.reduceAdd, Nat.reduceLT, Nat.reduceSub] at hH); subst hF; subst hH
        refine WE ?_
        refine WR ?_
        refine al_ef rfl (ef_call0 false (fun _ => spoilLn_a va) rfl .fn rfl (by decide) (by kernel_rfl) rfl (fun _ => C0 rfl) (by simp)) ?_
        rintro _ _ ⟨_, _, _, ⟨rfl, rfl⟩, hF, hH⟩
        (try simp only [nsl, Nat.reduceAdd, Nat.reduceLT, Nat.reduceSub] at hF); (try simp only [nsl, Nat.reduceAdd, Nat.reduceLT, Nat.reduceSub] at hH); subst hF; subst hH
        refine WE ?_
        refine WR ?_
        refine al_ef rfl (ef_call0 false (fun _ => eqL_a l l vl vl2 (by omega) (by omega)) rfl .fn rfl (by decide) (by kernel_rfl) rfl (fun _ => C0 rfl) (by simp)) ?_
        rintro _ _ ⟨_, _, _, ⟨bm, rfl, rfl, hbm⟩, hF, hH⟩
        obtain rfl : bm = true := hbm.2 rfl
        (try simp only [nsl, Nat.reduceAdd, Nat.reduceLT, Nat.reduceSub] at hF); (try simp only [nsl, Nat.reduceAdd, Nat.reduceLT, Nat.reduceSub] at hH); subst hF; subst hH
        refine WO ?_
        first | refine ZS ?_ | (refine G1 rfl ?_; refine al_ef rfl (ef_call0 false (fun _ => eqI_a cs cs vc vc2 (by omega) (by omega)) rfl .fn rfl (by decide) (by kernel_rfl) rfl (fun _ => C0 rfl) (by simp)) ?_; rintro _ _ ⟨_, _, _, ⟨bm, rfl, rfl, hbm⟩, hF, hH⟩; obtain rfl : bm = true := hbm.2 rfl; (try simp only [nsl, Nat.reduceAdd, Nat.reduceLT, Nat.reduceSub] at hF); (try simp only [nsl, Nat.reduceAdd, Nat.reduceLT, Nat.reduceSub] at hH); subst hF; subst hH) | skip
        refine WO ?_
        first | refine ZS ?_ | (refine G1 rfl ?_; refine al_ef rfl (ef_call0 false (fun _ => eqPx_a pl pl vp vp2 (by omega) (by omega)) rfl .fn rfl (by decide) (by kernel_rfl) rfl (fun _ => C0 rfl) (by simp)) ?_; rintro _ _ ⟨_, _, _, ⟨bm, rfl, rfl, hbm⟩, hF, hH⟩; obtain rfl : bm = true := hbm.2 rfl; (try simp only [nsl, Nat.reduceAdd, Nat.reduceLT, Nat.reduceSub] at hF); (try simp only [nsl, Nat.reduceAdd, Nat.reduceLT, Nat.reduceSub] at hH); subst hF; subst hH) | skip
        refine WO ?_
        first | refine ZS ?_ | (refine G1 rfl ?_; refine al_ef rfl (ef_call0 false (fun _ => ready_a) rfl .fn rfl (by decide) (by kernel_rfl) rfl (fun _ => C0 rfl) (by simp)) ?_; rintro _ _ ⟨_, _, _, ⟨rfl, rfl⟩, hF, hH⟩; (try simp only [nsl, Nat.reduceAdd, Nat.reduceLT, Nat.reduceSub] at hF); (try simp only [nsl, Nat.reduceAdd, Nat.reduceLT, Nat.reduceSub] at hH); subst hF; subst hH) | skip
        refine WE ?_
        exact aret_1 [] _ rfl rfl rfl (by decide) (ZNK rfl) (fun _ => .nil) rfl
    · refine WR ?_
      refine al_ef rfl (ef_call0 false (fun _ => split_a l cs vl vc 0 1 (by omega) (by omega)) rfl .fn rfl (by decide) (by kernel_rfl) rfl (fun _ => C0 rfl) (by simp)) ?_
      rintro _ _ ⟨_, _, _, ⟨va, vb, rfl, rfl⟩, hF, hH⟩
      rw [if_neg hsv, if_neg hsv] at hF
      (try simp only [nsl, Nat.reduceAdd, Nat.reduceLT, Nat.reduceSub] at hF); (try simp only [nsl, Nat.reduceAdd, Nat.reduceLT, Nat.reduceSub] at hH); subst hF; subst hH
      refine WE ?_
      refine WR ?_
      refine al_ef rfl (ef_call0 false (fun _ => spoilLn_a va) rfl .fn rfl (by decide) (by kernel_rfl) rfl (fun _ => C0 rfl) (by simp)) ?_
      rintro _ _ ⟨_, _, _, ⟨rfl, rfl⟩, hF, hH⟩
      (try simp only [nsl, Nat.reduceAdd, Nat.reduceLT, Nat.reduceSub] at hF); (try simp only [nsl, Nat.reduceAdd, Nat.reduceLT, Nat.reduceSub] at hH); subst hF; subst hH
      refine WE ?_
      refine WR ?_
      refine al_ef rfl (ef_call0 false (fun _ => spoilIn_a vb) rfl .fn rfl (by decide) (by kernel_rfl) rfl (fun _ => C0 rfl) (by simp)) ?_
      rintro _ _ ⟨_, _, _, ⟨rfl, rfl⟩, hF, hH⟩
      (try simp only [nsl, Nat.reduceAdd, Nat.reduceLT, Nat.reduceSub] at hF); (try simp only [nsl, Nat.reduceAdd, Nat.reduceLT, Nat.reduceSub] at hH); subst hF; subst hH
      refine WE ?_
      refine aw_wk (wk_of (K := fun F H => F = [(3, .p 0 0 0), (4, .p 1 0 0), (5, .c (legs_r vl l)), (6, .c (legs_r vl2 l)), (7, .c (ints_r vc cs)), (8, .c (ints_r vc2 cs))] ∧ H = [strm v zs ac, strm v zs ac]) [some 0, some 1] (fun _ => [(3, .p 0 0 0), (4, .p 1 0 0), (5, .c (legs_r vl l)), (6, .c (legs_r vl2 l)), (7, .c (ints_r vc cs)), (8, .c (ints_r vc2 cs))]) (fun _ => [strm v zs ac, strm v zs ac]) (by decide) (ZNL hE) ZCF ZCH (fun _ => ⟨rfl, rfl⟩)) ?_
      rintro F H ⟨rfl, rfl⟩
      refine WR ?_
      refine al_ef rfl (ef_call [0] (fun _ => [strm v zs ac]) false (fun _ => ahead_f v zs ac hs (by omega) (by omega)) rfl .fn rfl (by decide) (by kernel_rfl) rfl (fun _g => .cons (.p rfl) .nil) (by decide) ZCH (by simp)) ?_
      rintro F1 H1 ⟨_, _, _, _, ⟨vp, pl, pb, ap, rfl, rfl, hp1pl, hp2pl, hp3pl, hpfpl⟩, hF, hH⟩
      (try simp only [List.set_cons_zero, List.set_cons_succ, updH, posOf, lentArr, killF, killO, killV, AV.has, AV.hasL, AV.emb, AV.embL, OB.emb, embB, List.filter_cons, List.filter_nil, List.getElem?_cons_zero, List.getElem?_cons_succ, List.getD_cons_zero, List.getD_cons_succ, List.drop_succ_cons, List.drop_zero, List.drop_nil, List.contains_cons, List.contains_nil, Nat.reduceBEq, Nat.reduceEqDiff, beq_self_eq_true, Bool.or_false, Bool.false_or, Bool.or_true, Bool.true_or, Bool.false_eq_true, Option.map_some, Option.map_none, List.map_cons, List.map_nil, List.cons_append, List.nil_append, List.append_nil, List.length_cons, List.length_nil, Nat.reduceAdd, Nat.reduceLT, Nat.reduceSub, if_true, if_false, Nat.zero_add, Nat.add_zero, Nat.sub_zero, Nat.lt_irrefl, Nat.not_lt_zero, Nat.zero_lt_one, Nat.lt_add_one] at hF); (try simp only [List.set_cons_zero, List.set_cons_succ, updH, posOf, lentArr, killF, killO, killV, AV.has, AV.hasL, AV.emb, AV.embL, OB.emb, embB, List.filter_cons, List.filter_nil, List.getElem?_cons_zero, List.getElem?_cons_succ, List.getD_cons_zero, List.getD_cons_succ, List.drop_succ_cons, List.drop_zero, List.drop_nil, List.contains_cons, List.contains_nil, Nat.reduceBEq, Nat.reduceEqDiff, beq_self_eq_true, Bool.or_false, Bool.false_or, Bool.or_true, Bool.true_or, Bool.false_eq_true, Option.map_some, Option.map_none, List.map_cons, List.map_nil, List.cons_append, List.nil_append, List.append_nil, List.length_cons, List.length_nil, Nat.reduceAdd, Nat.reduceLT, Nat.reduceSub, if_true, if_false, Nat.zero_add, Nat.add_zero, Nat.sub_zero, Nat.lt_irrefl, Nat.not_lt_zero, Nat.zero_lt_one, Nat.lt_add_one] at hH); subst hF; subst hH
      refine WO ?_
      refine al_ef rfl (ef_call [1] (fun _ => [strm v zs ac]) false (fun _ => ahead_f v zs ac hs (by omega) (by omega)) rfl .fn rfl (by decide) (by kernel_rfl) rfl (fun _g => .cons (.p rfl) .nil) (by decide) ZCH (by simp)) ?_
      rintro F1 H1 ⟨_, _, _, _, ⟨vp2, pl2, pb2, ap2, rfl, rfl, hp1pl2, hp2pl2, hp3pl2, hpfpl2⟩, hF, hH⟩
      (try simp only [List.set_cons_zero, List.set_cons_succ, updH, posOf, lentArr, killF, killO, killV, AV.has, AV.hasL, AV.emb, AV.embL, OB.emb, embB, List.filter_cons, List.filter_nil, List.getElem?_cons_zero, List.getElem?_cons_succ, List.getD_cons_zero, List.getD_cons_succ, List.drop_succ_cons, List.drop_zero, List.drop_nil, List.contains_cons, List.contains_nil, Nat.reduceBEq, Nat.reduceEqDiff, beq_self_eq_true, Bool.or_false, Bool.false_or, Bool.or_true, Bool.true_or, Bool.false_eq_true, Option.map_some, Option.map_none, List.map_cons, List.map_nil, List.cons_append, List.nil_append, List.append_nil, List.length_cons, List.length_nil, Nat.reduceAdd, Nat.reduceLT, Nat.reduceSub, if_true, if_false, Nat.zero_add, Nat.add_zero, Nat.sub_zero, Nat.lt_irrefl, Nat.not_lt_zero, Nat.zero_lt_one, Nat.lt_add_one] at hF); (try simp only [List.set_cons_zero, List.set_cons_succ, updH, posOf, lentArr, killF, killO, killV, AV.has, AV.hasL, AV.emb, AV.embL, OB.emb, embB, List.filter_cons, List.filter_nil, List.getElem?_cons_zero, List.getElem?_cons_succ, List.getD_cons_zero, List.getD_cons_succ, List.drop_succ_cons, List.drop_zero, List.drop_nil, List.contains_cons, List.contains_nil, Nat.reduceBEq, Nat.reduceEqDiff, beq_self_eq_true, Bool.or_false, Bool.false_or, Bool.or_true, Bool.true_or, Bool.false_eq_true, Option.map_some, Option.map_none, List.map_cons, List.map_nil, List.cons_append, List.nil_append, List.append_nil, List.length_cons, List.length_nil, Nat.reduceAdd, Nat.reduceLT, Nat.reduceSub, if_true, if_false, Nat.zero_add, Nat.add_zero, Nat.sub_zero, Nat.lt_irrefl, Nat.not_lt_zero, Nat.zero_lt_one, Nat.lt_add_one] at hH); subst hF; subst hH
      refine WE ?_
      obtain ⟨rfl, rfl, rfl⟩ : pl = pl2 ∧ pb = pb2 ∧ ap = ap2 := by rw [← hpfpl] at hpfpl2; simpa [eq_comm] using hpfpl2
      by_cases hmv : movF pl pb 50 = 0
      · obtain ⟨Lp, hLp⟩ : ∃ W, W = legsPt pl pb 50 := ⟨_, rfl⟩
        refine WR ?_
        refine al_ef rfl (ef_call0 false (fun _ => legs_o pl vp pb 50 hmv) rfl .fn rfl (by decide) (by kernel_rfl) rfl (fun _ => C0 rfl) (by simp)) ?_
        rintro _ _ ⟨_, _, _, ⟨k1, hk1, rfl, rfl⟩, hF, hH⟩
        rw [← hLp] at hF hH
        (try simp only [nsl, Nat.reduceAdd, Nat.reduceLT, Nat.reduceSub] at hF); (try simp only [nsl, Nat.reduceAdd, Nat.reduceLT, Nat.reduceSub] at hH); subst hF; subst hH
        refine WE ?_
        have hLl : Lp.length ≤ 1000000 := by
          obtain ⟨hpq, -⟩ := movF_ok hmv
          obtain ⟨d1, -⟩ := difs_ok (pathF_ok hpq).1
          rw [hLp, legsPt, List.length_map]; omega
        refine WR ?_
        refine al_ef rfl (ef_callp [4] (fun _ => [.arr 38 2 k1 (Lp.map Leg.row)]) false (fun _ => spoilL_a Lp k1 (by omega)) rfl .fn rfl (by decide) (by kernel_rfl) rfl (fun _ => .cons (.o rfl rfl) .nil) (by decide) (fun _ => .arr rfl rfl .nil) (by simp)) ?_
        rintro F1 H1 ⟨_, _, _, _, ⟨sp, hsp, rfl, rfl⟩, hF, hH⟩
        rw [killF_nil] at hF
        (try simp only [List.set_cons_zero, List.set_cons_succ, updH, posOf, lentArr, killF, killO, killV, AV.has, AV.hasL, AV.emb, AV.embL, OB.emb, embB, List.filter_cons, List.filter_nil, List.getElem?_cons_zero, List.getElem?_cons_succ, List.getD_cons_zero, List.getD_cons_succ, List.drop_succ_cons, List.drop_zero, List.drop_nil, List.contains_cons, List.contains_nil, Nat.reduceBEq, Nat.reduceEqDiff, beq_self_eq_true, Bool.or_false, Bool.false_or, Bool.or_true, Bool.true_or, Bool.false_eq_true, Option.map_some, Option.map_none, List.map_cons, List.map_nil, List.cons_append, List.nil_append, List.append_nil, List.length_cons, List.length_nil, Nat.reduceAdd, Nat.reduceLT, Nat.reduceSub, if_true, if_false, Nat.zero_add, Nat.add_zero, Nat.sub_zero, Nat.lt_irrefl, Nat.not_lt_zero, Nat.zero_lt_one, Nat.lt_add_one] at hF); (try simp only [List.set_cons_zero, List.set_cons_succ, updH, posOf, lentArr, killF, killO, killV, AV.has, AV.hasL, AV.emb, AV.embL, OB.emb, embB, List.filter_cons, List.filter_nil, List.getElem?_cons_zero, List.getElem?_cons_succ, List.getD_cons_zero, List.getD_cons_succ, List.drop_succ_cons, List.drop_zero, List.drop_nil, List.contains_cons, List.contains_nil, Nat.reduceBEq, Nat.reduceEqDiff, beq_self_eq_true, Bool.or_false, Bool.false_or, Bool.or_true, Bool.true_or, Bool.false_eq_true, Option.map_some, Option.map_none, List.map_cons, List.map_nil, List.cons_append, List.nil_append, List.append_nil, List.length_cons, List.length_nil, Nat.reduceAdd, Nat.reduceLT, Nat.reduceSub, if_true, if_false, Nat.zero_add, Nat.add_zero, Nat.sub_zero, Nat.lt_irrefl, Nat.not_lt_zero, Nat.zero_lt_one, Nat.lt_add_one] at hH); subst hF; subst hH
        refine WE ?_
        refine WR ?_
        refine al_ef rfl (ef_call0 false (fun _ => eqL_a l l vl vl2 (by omega) (by omega)) rfl .fn rfl (by decide) (by kernel_rfl) rfl (fun _ => C0 rfl) (by simp)) ?_
        rintro _ _ ⟨_, _, _, ⟨bm, rfl, rfl, hbm⟩, hF, hH⟩
        obtain rfl : bm = true := hbm.2 rfl
        (try simp only [nsl, Nat.reduceAdd, Nat.reduceLT, Nat.reduceSub] at hF); (try simp only [nsl, Nat.reduceAdd, Nat.reduceLT, Nat.reduceSub] at hH); subst hF; subst hH
        refine WO ?_
        first | refine ZS ?_ | (refine G1 rfl ?_; refine al_ef rfl (ef_call0 false (fun _ => eqI_a cs cs vc vc2 (by omega) (by omega)) rfl .fn rfl (by decide) (by kernel_rfl) rfl (fun _ => C0 rfl) (by simp)) ?_; rintro _ _ ⟨_, _, _, ⟨bm, rfl, rfl, hbm⟩, hF, hH⟩; obtain rfl : bm = true := hbm.2 rfl; (try simp only [nsl, Nat.reduceAdd, Nat.reduceLT, Nat.reduceSub] at hF); (try simp only [nsl, Nat.reduceAdd, Nat.reduceLT, Nat.reduceSub] at hH); subst hF; subst hH) | skip
        refine WO ?_
        first | refine ZS ?_ | (refine G1 rfl ?_; refine al_ef rfl (ef_call0 false (fun _ => eqPx_a pl pl vp vp2 (by omega) (by omega)) rfl .fn rfl (by decide) (by kernel_rfl) rfl (fun _ => C0 rfl) (by simp)) ?_; rintro _ _ ⟨_, _, _, ⟨bm, rfl, rfl, hbm⟩, hF, hH⟩; obtain rfl : bm = true := hbm.2 rfl; (try simp only [nsl, Nat.reduceAdd, Nat.reduceLT, Nat.reduceSub] at hF); (try simp only [nsl, Nat.reduceAdd, Nat.reduceLT, Nat.reduceSub] at hH); subst hF; subst hH) | skip
        refine WO ?_
        first | refine ZS ?_ | (refine G1 rfl ?_; refine al_ef rfl (ef_call0 false (fun _ => ready_a) rfl .fn rfl (by decide) (by kernel_rfl) rfl (fun _ => C0 rfl) (by simp)) ?_; rintro _ _ ⟨_, _, _, ⟨rfl, rfl⟩, hF, hH⟩; (try simp only [nsl, Nat.reduceAdd, Nat.reduceLT, Nat.reduceSub] at hF); (try simp only [nsl, Nat.reduceAdd, Nat.reduceLT, Nat.reduceSub] at hH); subst hF; subst hH) | skip
        refine WE ?_
        exact aret_1 [] _ rfl rfl rfl (by decide) (ZNK rfl) (fun _ => .nil) rfl
      · refine WR ?_
        refine al_ef rfl (ef_call0 false (fun _ => legs_a pl vp pb 50) rfl .fn rfl (by decide) (by kernel_rfl) rfl (fun _ => C0 rfl) (by simp)) ?_
        rintro _ _ ⟨_, _, _, ⟨va, rfl, rfl⟩, hF, hH⟩
        rw [if_neg hmv] at hF
        (try simp only [nsl, Nat.reduceAdd, Nat.reduceLT, Nat.reduceSub] at hF); (try simp only [nsl, Nat.reduceAdd, Nat.reduceLT, Nat.reduceSub] at hH); subst hF; subst hH
        refine WE ?_
        refine WR ?_
        refine al_ef rfl (ef_call0 false (fun _ => spoilLn_a va) rfl .fn rfl (by decide) (by kernel_rfl) rfl (fun _ => C0 rfl) (by simp)) ?_
        rintro _ _ ⟨_, _, _, ⟨rfl, rfl⟩, hF, hH⟩
        (try simp only [nsl, Nat.reduceAdd, Nat.reduceLT, Nat.reduceSub] at hF); (try simp only [nsl, Nat.reduceAdd, Nat.reduceLT, Nat.reduceSub] at hH); subst hF; subst hH
        refine WE ?_
        refine WR ?_
        refine al_ef rfl (ef_call0 false (fun _ => eqL_a l l vl vl2 (by omega) (by omega)) rfl .fn rfl (by decide) (by kernel_rfl) rfl (fun _ => C0 rfl) (by simp)) ?_
        rintro _ _ ⟨_, _, _, ⟨bm, rfl, rfl, hbm⟩, hF, hH⟩
        obtain rfl : bm = true := hbm.2 rfl
        (try simp only [nsl, Nat.reduceAdd, Nat.reduceLT, Nat.reduceSub] at hF); (try simp only [nsl, Nat.reduceAdd, Nat.reduceLT, Nat.reduceSub] at hH); subst hF; subst hH
        refine WO ?_
        first | refine ZS ?_ | (refine G1 rfl ?_; refine al_ef rfl (ef_call0 false (fun _ => eqI_a cs cs vc vc2 (by omega) (by omega)) rfl .fn rfl (by decide) (by kernel_rfl) rfl (fun _ => C0 rfl) (by simp)) ?_; rintro _ _ ⟨_, _, _, ⟨bm, rfl, rfl, hbm⟩, hF, hH⟩; obtain rfl : bm = true := hbm.2 rfl; (try simp only [nsl, Nat.reduceAdd, Nat.reduceLT, Nat.reduceSub] at hF); (try simp only [nsl, Nat.reduceAdd, Nat.reduceLT, Nat.reduceSub] at hH); subst hF; subst hH) | skip
        refine WO ?_
        first | refine ZS ?_ | (refine G1 rfl ?_; refine al_ef rfl (ef_call0 false (fun _ => eqPx_a pl pl vp vp2 (by omega) (by omega)) rfl .fn rfl (by decide) (by kernel_rfl) rfl (fun _ => C0 rfl) (by simp)) ?_; rintro _ _ ⟨_, _, _, ⟨bm, rfl, rfl, hbm⟩, hF, hH⟩; obtain rfl : bm = true := hbm.2 rfl; (try simp only [nsl, Nat.reduceAdd, Nat.reduceLT, Nat.reduceSub] at hF); (try simp only [nsl, Nat.reduceAdd, Nat.reduceLT, Nat.reduceSub] at hH); subst hF; subst hH) | skip
        refine WO ?_
        first | refine ZS ?_ | (refine G1 rfl ?_; refine al_ef rfl (ef_call0 false (fun _ => ready_a) rfl .fn rfl (by decide) (by kernel_rfl) rfl (fun _ => C0 rfl) (by simp)) ?_; rintro _ _ ⟨_, _, _, ⟨rfl, rfl⟩, hF, hH⟩; (try simp only [nsl, Nat.reduceAdd, Nat.reduceLT, Nat.reduceSub] at hF); (try simp only [nsl, Nat.reduceAdd, Nat.reduceLT, Nat.reduceSub] at hH); subst hF; subst hH) | skip
        refine WE ?_
        exact aret_1 [] _ rfl rfl rfl (by decide) (ZNK rfl) (fun _ => .nil) rfl
  · have hsv : ¬ splV l cs 0 1 = 0 := by unfold splV; rw [if_pos hcf]; exact hcf
    refine WR ?_
    refine al_ef rfl (ef_call0 false (fun _ => speedsx_a l cs 50 vl vc (by omega) (by omega)) rfl .fn rfl (by decide) (by kernel_rfl) rfl (fun _ => C0 rfl) (by simp)) ?_
    rintro _ _ ⟨_, _, _, ⟨va, rfl, rfl⟩, hF, hH⟩
    rw [faultL_50, if_neg hcf] at hF
    (try simp only [nsl, Nat.reduceAdd, Nat.reduceLT, Nat.reduceSub] at hF); (try simp only [nsl, Nat.reduceAdd, Nat.reduceLT, Nat.reduceSub] at hH); subst hF; subst hH
    refine WE ?_
    refine WR ?_
    refine al_ef rfl (ef_call0 false (fun _ => spoilIn_a va) rfl .fn rfl (by decide) (by kernel_rfl) rfl (fun _ => C0 rfl) (by simp)) ?_
    rintro _ _ ⟨_, _, _, ⟨rfl, rfl⟩, hF, hH⟩
    (try simp only [nsl, Nat.reduceAdd, Nat.reduceLT, Nat.reduceSub] at hF); (try simp only [nsl, Nat.reduceAdd, Nat.reduceLT, Nat.reduceSub] at hH); subst hF; subst hH
    refine WE ?_
    refine WR ?_
    refine al_ef rfl (ef_call0 false (fun _ => back_a l cs vl vc (by omega) (by omega)) rfl .fn rfl (by decide) (by kernel_rfl) rfl (fun _ => C0 rfl) (by simp)) ?_
    rintro _ _ ⟨_, _, _, ⟨va, vb, rfl, rfl⟩, hF, hH⟩
    rw [if_neg hcf, if_neg hcf] at hF
    (try simp only [nsl, Nat.reduceAdd, Nat.reduceLT, Nat.reduceSub] at hF); (try simp only [nsl, Nat.reduceAdd, Nat.reduceLT, Nat.reduceSub] at hH); subst hF; subst hH
    refine WE ?_
    refine WR ?_
    refine al_ef rfl (ef_call0 false (fun _ => spoilLn_a va) rfl .fn rfl (by decide) (by kernel_rfl) rfl (fun _ => C0 rfl) (by simp)) ?_
    rintro _ _ ⟨_, _, _, ⟨rfl, rfl⟩, hF, hH⟩
    (try simp only [nsl, Nat.reduceAdd, Nat.reduceLT, Nat.reduceSub] at hF); (try simp only [nsl, Nat.reduceAdd, Nat.reduceLT, Nat.reduceSub] at hH); subst hF; subst hH
    refine WE ?_
    refine WR ?_
    refine al_ef rfl (ef_call0 false (fun _ => spoilIn_a vb) rfl .fn rfl (by decide) (by kernel_rfl) rfl (fun _ => C0 rfl) (by simp)) ?_
    rintro _ _ ⟨_, _, _, ⟨rfl, rfl⟩, hF, hH⟩
    (try simp only [nsl, Nat.reduceAdd, Nat.reduceLT, Nat.reduceSub] at hF); (try simp only [nsl, Nat.reduceAdd, Nat.reduceLT, Nat.reduceSub] at hH); subst hF; subst hH
    refine WE ?_
    refine WR ?_
    refine al_ef rfl (ef_call0 false (fun _ => split_a l cs vl vc 0 1 (by omega) (by omega)) rfl .fn rfl (by decide) (by kernel_rfl) rfl (fun _ => C0 rfl) (by simp)) ?_
    rintro _ _ ⟨_, _, _, ⟨va, vb, rfl, rfl⟩, hF, hH⟩
    rw [if_neg hsv, if_neg hsv] at hF
    (try simp only [nsl, Nat.reduceAdd, Nat.reduceLT, Nat.reduceSub] at hF); (try simp only [nsl, Nat.reduceAdd, Nat.reduceLT, Nat.reduceSub] at hH); subst hF; subst hH
    refine WE ?_
    refine WR ?_
    refine al_ef rfl (ef_call0 false (fun _ => spoilLn_a va) rfl .fn rfl (by decide) (by kernel_rfl) rfl (fun _ => C0 rfl) (by simp)) ?_
    rintro _ _ ⟨_, _, _, ⟨rfl, rfl⟩, hF, hH⟩
    (try simp only [nsl, Nat.reduceAdd, Nat.reduceLT, Nat.reduceSub] at hF); (try simp only [nsl, Nat.reduceAdd, Nat.reduceLT, Nat.reduceSub] at hH); subst hF; subst hH
    refine WE ?_
    refine WR ?_
    refine al_ef rfl (ef_call0 false (fun _ => spoilIn_a vb) rfl .fn rfl (by decide) (by kernel_rfl) rfl (fun _ => C0 rfl) (by simp)) ?_
    rintro _ _ ⟨_, _, _, ⟨rfl, rfl⟩, hF, hH⟩
    (try simp only [nsl, Nat.reduceAdd, Nat.reduceLT, Nat.reduceSub] at hF); (try simp only [nsl, Nat.reduceAdd, Nat.reduceLT, Nat.reduceSub] at hH); subst hF; subst hH
    refine WE ?_
    refine aw_wk (wk_of (K := fun F H => F = [(3, .p 0 0 0), (4, .p 1 0 0), (5, .c (legs_r vl l)), (6, .c (legs_r vl2 l)), (7, .c (ints_r vc cs)), (8, .c (ints_r vc2 cs))] ∧ H = [strm v zs ac, strm v zs ac]) [some 0, some 1] (fun _ => [(3, .p 0 0 0), (4, .p 1 0 0), (5, .c (legs_r vl l)), (6, .c (legs_r vl2 l)), (7, .c (ints_r vc cs)), (8, .c (ints_r vc2 cs))]) (fun _ => [strm v zs ac, strm v zs ac]) (by decide) (ZNL hE) ZCF ZCH (fun _ => ⟨rfl, rfl⟩)) ?_
    rintro F H ⟨rfl, rfl⟩
    refine WR ?_
    refine al_ef rfl (ef_call [0] (fun _ => [strm v zs ac]) false (fun _ => ahead_f v zs ac hs (by omega) (by omega)) rfl .fn rfl (by decide) (by kernel_rfl) rfl (fun _g => .cons (.p rfl) .nil) (by decide) ZCH (by simp)) ?_
    rintro F1 H1 ⟨_, _, _, _, ⟨vp, pl, pb, ap, rfl, rfl, hp1pl, hp2pl, hp3pl, hpfpl⟩, hF, hH⟩
    (try simp only [List.set_cons_zero, List.set_cons_succ, updH, posOf, lentArr, killF, killO, killV, AV.has, AV.hasL, AV.emb, AV.embL, OB.emb, embB, List.filter_cons, List.filter_nil, List.getElem?_cons_zero, List.getElem?_cons_succ, List.getD_cons_zero, List.getD_cons_succ, List.drop_succ_cons, List.drop_zero, List.drop_nil, List.contains_cons, List.contains_nil, Nat.reduceBEq, Nat.reduceEqDiff, beq_self_eq_true, Bool.or_false, Bool.false_or, Bool.or_true, Bool.true_or, Bool.false_eq_true, Option.map_some, Option.map_none, List.map_cons, List.map_nil, List.cons_append, List.nil_append, List.append_nil, List.length_cons, List.length_nil, Nat.reduceAdd, Nat.reduceLT, Nat.reduceSub, if_true, if_false, Nat.zero_add, Nat.add_zero, Nat.sub_zero, Nat.lt_irrefl, Nat.not_lt_zero, Nat.zero_lt_one, Nat.lt_add_one] at hF); (try simp only [List.set_cons_zero, List.set_cons_succ, updH, posOf, lentArr, killF, killO, killV, AV.has, AV.hasL, AV.emb, AV.embL, OB.emb, embB, List.filter_cons, List.filter_nil, List.getElem?_cons_zero, List.getElem?_cons_succ, List.getD_cons_zero, List.getD_cons_succ, List.drop_succ_cons, List.drop_zero, List.drop_nil, List.contains_cons, List.contains_nil, Nat.reduceBEq, Nat.reduceEqDiff, beq_self_eq_true, Bool.or_false, Bool.false_or, Bool.or_true, Bool.true_or, Bool.false_eq_true, Option.map_some, Option.map_none, List.map_cons, List.map_nil, List.cons_append, List.nil_append, List.append_nil, List.length_cons, List.length_nil, Nat.reduceAdd, Nat.reduceLT, Nat.reduceSub, if_true, if_false, Nat.zero_add, Nat.add_zero, Nat.sub_zero, Nat.lt_irrefl, Nat.not_lt_zero, Nat.zero_lt_one, Nat.lt_add_one] at hH); subst hF; subst hH
    refine WO ?_
    refine al_ef rfl (ef_call [1] (fun _ => [strm v zs ac]) false (fun _ => ahead_f v zs ac hs (by omega) (by omega)) rfl .fn rfl (by decide) (by kernel_rfl) rfl (fun _g => .cons (.p rfl) .nil) (by decide) ZCH (by simp)) ?_
    rintro F1 H1 ⟨_, _, _, _, ⟨vp2, pl2, pb2, ap2, rfl, rfl, hp1pl2, hp2pl2, hp3pl2, hpfpl2⟩, hF, hH⟩
    (try simp only [List.set_cons_zero, List.set_cons_succ, updH, posOf, lentArr, killF, killO, killV, AV.has, AV.hasL, AV.emb, AV.embL, OB.emb, embB, List.filter_cons, List.filter_nil, List.getElem?_cons_zero, List.getElem?_cons_succ, List.getD_cons_zero, List.getD_cons_succ, List.drop_succ_cons, List.drop_zero, List.drop_nil, List.contains_cons, List.contains_nil, Nat.reduceBEq, Nat.reduceEqDiff, beq_self_eq_true, Bool.or_false, Bool.false_or, Bool.or_true, Bool.true_or, Bool.false_eq_true, Option.map_some, Option.map_none, List.map_cons, List.map_nil, List.cons_append, List.nil_append, List.append_nil, List.length_cons, List.length_nil, Nat.reduceAdd, Nat.reduceLT, Nat.reduceSub, if_true, if_false, Nat.zero_add, Nat.add_zero, Nat.sub_zero, Nat.lt_irrefl, Nat.not_lt_zero, Nat.zero_lt_one, Nat.lt_add_one] at hF); (try simp only [List.set_cons_zero, List.set_cons_succ, updH, posOf, lentArr, killF, killO, killV, AV.has, AV.hasL, AV.emb, AV.embL, OB.emb, embB, List.filter_cons, List.filter_nil, List.getElem?_cons_zero, List.getElem?_cons_succ, List.getD_cons_zero, List.getD_cons_succ, List.drop_succ_cons, List.drop_zero, List.drop_nil, List.contains_cons, List.contains_nil, Nat.reduceBEq, Nat.reduceEqDiff, beq_self_eq_true, Bool.or_false, Bool.false_or, Bool.or_true, Bool.true_or, Bool.false_eq_true, Option.map_some, Option.map_none, List.map_cons, List.map_nil, List.cons_append, List.nil_append, List.append_nil, List.length_cons, List.length_nil, Nat.reduceAdd, Nat.reduceLT, Nat.reduceSub, if_true, if_false, Nat.zero_add, Nat.add_zero, Nat.sub_zero, Nat.lt_irrefl, Nat.not_lt_zero, Nat.zero_lt_one, Nat.lt_add_one] at hH); subst hF; subst hH
    refine WE ?_
    obtain ⟨rfl, rfl, rfl⟩ : pl = pl2 ∧ pb = pb2 ∧ ap = ap2 := by rw [← hpfpl] at hpfpl2; simpa [eq_comm] using hpfpl2
    by_cases hmv : movF pl pb 50 = 0
    · obtain ⟨Lp, hLp⟩ : ∃ W, W = legsPt pl pb 50 := ⟨_, rfl⟩
      refine WR ?_
      refine al_ef rfl (ef_call0 false (fun _ => legs_o pl vp pb 50 hmv) rfl .fn rfl (by decide) (by kernel_rfl) rfl (fun _ => C0 rfl) (by simp)) ?_
      rintro _ _ ⟨_, _, _, ⟨k1, hk1, rfl, rfl⟩, hF, hH⟩
      rw [← hLp] at hF hH
      (try simp only [nsl, Nat.reduceAdd, Nat.reduceLT, Nat.reduceSub] at hF); (try simp only [nsl, Nat.reduceAdd, Nat.reduceLT, Nat.reduceSub] at hH); subst hF; subst hH
      refine WE ?_
      have hLl : Lp.length ≤ 1000000 := by
        obtain ⟨hpq, -⟩ := movF_ok hmv
        obtain ⟨d1, -⟩ := difs_ok (pathF_ok hpq).1
        rw [hLp, legsPt, List.length_map]; omega
      refine WR ?_
      refine al_ef rfl (ef_callp [4] (fun _ => [.arr 38 2 k1 (Lp.map Leg.row)]) false (fun _ => spoilL_a Lp k1 (by omega)) rfl .fn rfl (by decide) (by kernel_rfl) rfl (fun _ => .cons (.o rfl rfl) .nil) (by decide) (fun _ => .arr rfl rfl .nil) (by simp)) ?_
      rintro F1 H1 ⟨_, _, _, _, ⟨sp, hsp, rfl, rfl⟩, hF, hH⟩
      rw [killF_nil] at hF
      (try simp only [List.set_cons_zero, List.set_cons_succ, updH, posOf, lentArr, killF, killO, killV, AV.has, AV.hasL, AV.emb, AV.embL, OB.emb, embB, List.filter_cons, List.filter_nil, List.getElem?_cons_zero, List.getElem?_cons_succ, List.getD_cons_zero, List.getD_cons_succ, List.drop_succ_cons, List.drop_zero, List.drop_nil, List.contains_cons, List.contains_nil, Nat.reduceBEq, Nat.reduceEqDiff, beq_self_eq_true, Bool.or_false, Bool.false_or, Bool.or_true, Bool.true_or, Bool.false_eq_true, Option.map_some, Option.map_none, List.map_cons, List.map_nil, List.cons_append, List.nil_append, List.append_nil, List.length_cons, List.length_nil, Nat.reduceAdd, Nat.reduceLT, Nat.reduceSub, if_true, if_false, Nat.zero_add, Nat.add_zero, Nat.sub_zero, Nat.lt_irrefl, Nat.not_lt_zero, Nat.zero_lt_one, Nat.lt_add_one] at hF); (try simp only [List.set_cons_zero, List.set_cons_succ, updH, posOf, lentArr, killF, killO, killV, AV.has, AV.hasL, AV.emb, AV.embL, OB.emb, embB, List.filter_cons, List.filter_nil, List.getElem?_cons_zero, List.getElem?_cons_succ, List.getD_cons_zero, List.getD_cons_succ, List.drop_succ_cons, List.drop_zero, List.drop_nil, List.contains_cons, List.contains_nil, Nat.reduceBEq, Nat.reduceEqDiff, beq_self_eq_true, Bool.or_false, Bool.false_or, Bool.or_true, Bool.true_or, Bool.false_eq_true, Option.map_some, Option.map_none, List.map_cons, List.map_nil, List.cons_append, List.nil_append, List.append_nil, List.length_cons, List.length_nil, Nat.reduceAdd, Nat.reduceLT, Nat.reduceSub, if_true, if_false, Nat.zero_add, Nat.add_zero, Nat.sub_zero, Nat.lt_irrefl, Nat.not_lt_zero, Nat.zero_lt_one, Nat.lt_add_one] at hH); subst hF; subst hH
      refine WE ?_
      refine WR ?_
      refine al_ef rfl (ef_call0 false (fun _ => eqL_a l l vl vl2 (by omega) (by omega)) rfl .fn rfl (by decide) (by kernel_rfl) rfl (fun _ => C0 rfl) (by simp)) ?_
      rintro _ _ ⟨_, _, _, ⟨bm, rfl, rfl, hbm⟩, hF, hH⟩
      obtain rfl : bm = true := hbm.2 rfl
      (try simp only [nsl, Nat.reduceAdd, Nat.reduceLT, Nat.reduceSub] at hF); (try simp only [nsl, Nat.reduceAdd, Nat.reduceLT, Nat.reduceSub] at hH); subst hF; subst hH
      refine WO ?_
      first | refine ZS ?_ | (refine G1 rfl ?_; refine al_ef rfl (ef_call0 false (fun _ => eqI_a cs cs vc vc2 (by omega) (by omega)) rfl .fn rfl (by decide) (by kernel_rfl) rfl (fun _ => C0 rfl) (by simp)) ?_; rintro _ _ ⟨_, _, _, ⟨bm, rfl, rfl, hbm⟩, hF, hH⟩; obtain rfl : bm = true := hbm.2 rfl; (try simp only [nsl, Nat.reduceAdd, Nat.reduceLT, Nat.reduceSub] at hF); (try simp only [nsl, Nat.reduceAdd, Nat.reduceLT, Nat.reduceSub] at hH); subst hF; subst hH) | skip
      refine WO ?_
      first | refine ZS ?_ | (refine G1 rfl ?_; refine al_ef rfl (ef_call0 false (fun _ => eqPx_a pl pl vp vp2 (by omega) (by omega)) rfl .fn rfl (by decide) (by kernel_rfl) rfl (fun _ => C0 rfl) (by simp)) ?_; rintro _ _ ⟨_, _, _, ⟨bm, rfl, rfl, hbm⟩, hF, hH⟩; obtain rfl : bm = true := hbm.2 rfl; (try simp only [nsl, Nat.reduceAdd, Nat.reduceLT, Nat.reduceSub] at hF); (try simp only [nsl, Nat.reduceAdd, Nat.reduceLT, Nat.reduceSub] at hH); subst hF; subst hH) | skip
      refine WO ?_
      first | refine ZS ?_ | (refine G1 rfl ?_; refine al_ef rfl (ef_call0 false (fun _ => ready_a) rfl .fn rfl (by decide) (by kernel_rfl) rfl (fun _ => C0 rfl) (by simp)) ?_; rintro _ _ ⟨_, _, _, ⟨rfl, rfl⟩, hF, hH⟩; (try simp only [nsl, Nat.reduceAdd, Nat.reduceLT, Nat.reduceSub] at hF); (try simp only [nsl, Nat.reduceAdd, Nat.reduceLT, Nat.reduceSub] at hH); subst hF; subst hH) | skip
      refine WE ?_
      exact aret_1 [] _ rfl rfl rfl (by decide) (ZNK rfl) (fun _ => .nil) rfl
    · refine WR ?_
      refine al_ef rfl (ef_call0 false (fun _ => legs_a pl vp pb 50) rfl .fn rfl (by decide) (by kernel_rfl) rfl (fun _ => C0 rfl) (by simp)) ?_
      rintro _ _ ⟨_, _, _, ⟨va, rfl, rfl⟩, hF, hH⟩
      rw [if_neg hmv] at hF
      (try simp only [nsl, Nat.reduceAdd, Nat.reduceLT, Nat.reduceSub] at hF); (try simp only [nsl, Nat.reduceAdd, Nat.reduceLT, Nat.reduceSub] at hH); subst hF; subst hH
      refine WE ?_
      refine WR ?_
      refine al_ef rfl (ef_call0 false (fun _ => spoilLn_a va) rfl .fn rfl (by decide) (by kernel_rfl) rfl (fun _ => C0 rfl) (by simp)) ?_
      rintro _ _ ⟨_, _, _, ⟨rfl, rfl⟩, hF, hH⟩
      (try simp only [nsl, Nat.reduceAdd, Nat.reduceLT, Nat.reduceSub] at hF); (try simp only [nsl, Nat.reduceAdd, Nat.reduceLT, Nat.reduceSub] at hH); subst hF; subst hH
      refine WE ?_
      refine WR ?_
      refine al_ef rfl (ef_call0 false (fun _ => eqL_a l l vl vl2 (by omega) (by omega)) rfl .fn rfl (by decide) (by kernel_rfl) rfl (fun _ => C0 rfl) (by simp)) ?_
      rintro _ _ ⟨_, _, _, ⟨bm, rfl, rfl, hbm⟩, hF, hH⟩
      obtain rfl : bm = true := hbm.2 rfl
      (try simp only [nsl, Nat.reduceAdd, Nat.reduceLT, Nat.reduceSub] at hF); (try simp only [nsl, Nat.reduceAdd, Nat.reduceLT, Nat.reduceSub] at hH); subst hF; subst hH
      refine WO ?_
      first | refine ZS ?_ | (refine G1 rfl ?_; refine al_ef rfl (ef_call0 false (fun _ => eqI_a cs cs vc vc2 (by omega) (by omega)) rfl .fn rfl (by decide) (by kernel_rfl) rfl (fun _ => C0 rfl) (by simp)) ?_; rintro _ _ ⟨_, _, _, ⟨bm, rfl, rfl, hbm⟩, hF, hH⟩; obtain rfl : bm = true := hbm.2 rfl; (try simp only [nsl, Nat.reduceAdd, Nat.reduceLT, Nat.reduceSub] at hF); (try simp only [nsl, Nat.reduceAdd, Nat.reduceLT, Nat.reduceSub] at hH); subst hF; subst hH) | skip
      refine WO ?_
      first | refine ZS ?_ | (refine G1 rfl ?_; refine al_ef rfl (ef_call0 false (fun _ => eqPx_a pl pl vp vp2 (by omega) (by omega)) rfl .fn rfl (by decide) (by kernel_rfl) rfl (fun _ => C0 rfl) (by simp)) ?_; rintro _ _ ⟨_, _, _, ⟨bm, rfl, rfl, hbm⟩, hF, hH⟩; obtain rfl : bm = true := hbm.2 rfl; (try simp only [nsl, Nat.reduceAdd, Nat.reduceLT, Nat.reduceSub] at hF); (try simp only [nsl, Nat.reduceAdd, Nat.reduceLT, Nat.reduceSub] at hH); subst hF; subst hH) | skip
      refine WO ?_
      first | refine ZS ?_ | (refine G1 rfl ?_; refine al_ef rfl (ef_call0 false (fun _ => ready_a) rfl .fn rfl (by decide) (by kernel_rfl) rfl (fun _ => C0 rfl) (by simp)) ?_; rintro _ _ ⟨_, _, _, ⟨rfl, rfl⟩, hF, hH⟩; (try simp only [nsl, Nat.reduceAdd, Nat.reduceLT, Nat.reduceSub] at hF); (try simp only [nsl, Nat.reduceAdd, Nat.reduceLT, Nat.reduceSub] at hH); subst hF; subst hH) | skip
      refine WE ?_
      exact aret_1 [] _ rfl rfl rfl (by decide) (ZNK rfl) (fun _ => .nil) rfl
end Go.Proofs.YtdmeohgojdfmoaaGreatDoor
