/- The statement PathsDriven: for every input the law returns true, and the input reads as it did. Conditions: none. -/
import Derived.Test.YtpbedckdnoogpaaGj
import Derived.Test.YtpbedckdnoogpaaGd
import Derived.Test.YtpbedckdnoogpaaGb
import Derived.Test.YtpbedckdnoogpaaMa
import Derived.Test.YtpbedckdnoogpaaPvx
import Derived.Test.YtpbedckdnoogpaaMk
import Derived.Test.YtpbedckdnoogpaaRows
import Derived.Test.YtpbedckdnoogpaaKz
set_option linter.unusedSimpArgs false
set_option linter.unusedVariables false
/- A leg divided by the program, by value. -/
namespace Go.Proofs.Ytpbedckdnoogpaa
open Go Go.RowKit
set_option maxRecDepth 100000
-- NEWM
def splV (l : List Leg) (cs : List Int) (leg at_ : Int) : Int := if cornersF l cs ≠ 0 then cornersF l cs else splF l leg at_
set_option maxHeartbeats 4000000 in
theorem split_a (l : List Leg) (cs : List Int) (v w : Value) (leg at_ : Int) (hll : l.length ≤ 1000000) (hcc : cs.length ≤ 1000000) : ACalls Try.prog 73 [.c (legs_r v l), .c (ints_r w cs), .c (I leg), .c (I at_)] [] fun u H =>
    ∃ v' w', u = .t [.c (legs_r v' (if splV l cs leg at_ = 0 then (splR l cs leg at_).1 else [])), .c (ints_r w' (if splV l cs leg at_ = 0 then (splR l cs leg at_).2 else [])), .c (I (splV l cs leg at_))] ∧ H = [] := by
  have e1 : (l.map Leg.row).length = l.length := by simp
  have e2 : (cs.map fun z => [I z]).length = cs.length := by simp
  refine acalls_of (N := 70) Try.func73 rfl rfl (by simp) fun E hE => ?_
  refine WA ?_
  refine WR ?_
  refine al_ef rfl (ef_call0 false (fun _ => corners1_a l cs v w (by omega) (by omega)) rfl .fn rfl (by decide) (by kernel_rfl) rfl (fun _ => C0 rfl) (by simp)) ?_
  rintro _ _ ⟨_, _, _, ⟨rfl, rfl⟩, hF, hH⟩
  (try simp only [nsl, Nat.reduceAdd, Nat.reduceLT, Nat.reduceSub] at hF); (try simp only [nsl, Nat.reduceAdd, Nat.reduceLT, Nat.reduceSub] at hH); subst hF; subst hH
  refine WE ?_
  refine WA ?_
  refine aw_if rfl (fun h0 => ?_) (fun h0 => ?_)
  · have hv : splV l cs leg at_ = cornersF l cs := by rw [splV, if_pos h0]
    refine WA ?_
    exact aret_of (us := [.c (legs_r (.slice none 0 0) []), .c (ints_r (.slice none 0 0) []), .c (I (cornersF l cs))]) [] (fun _ => .t [.c (legs_r (.slice none 0 0) []), .c (ints_r (.slice none 0 0) []), .c (I (cornersF l cs))]) (fun _ => []) (.tmp rfl (.tmp rfl (.tmp rfl .nil))) (by decide) (ZNK rfl) (fun _ => .tL (C0 rfl)) (fun _ => .nil) (fun _ => ⟨_, _, by rw [hv, if_neg (by omega), if_neg (by omega)], rfl⟩)
  have h00 : cornersF l cs = 0 := by omega
  obtain ⟨r1, r2, r3, r4, r5⟩ := cornersF_ok h00
  refine ZZ ?_
  by_cases hl : 0 ≤ leg ∧ leg < l.length
  · obtain ⟨i, rfl⟩ : ∃ i : Nat, leg = i := ⟨leg.toNat, by omega⟩
    obtain ⟨x, hx⟩ : ∃ x, l[i]? = some x := ⟨_, List.getElem?_eq_getElem (by omega)⟩
    have hrow : (l.map Leg.row)[i]? = some [I x.long, I x.limit] := by rw [List.getElem?_map, hx]; rfl
    obtain ⟨g1, g2, g3, g4⟩ := r3 x (List.mem_of_getElem? hx)
    have hsp : splV l cs i at_ = if at_ < 1 ∨ x.long ≤ at_ then 1 else if 2000 ≤ l.length then 2 else 0 := by
      unfold splV splF; rw [if_neg h0, if_neg (by omega)]; simp only [Int.toNat_natCast, hx]
    have hsr : splR l cs i at_ = (splL l i x at_, splC cs i x) := by unfold splR; simp only [Int.toNat_natCast, hx]
    refine WA ?_
    refine aw_cond_f rfl ?_
    refine ZZ ?_
    refine WA ?_
    by_cases ha : 1 ≤ at_ ∧ at_ < x.long
    · rw [if_neg (by omega)] at hsp
      refine WA ?_
      refine aw_cond_f rfl ?_
      refine ZZ ?_
      refine WA ?_
      refine aw_if rfl (fun h2 => ?_) (fun h2 => ?_)
      · have hv : splV l cs i at_ = 2 := by rw [hsp, if_pos (by omega)]
        refine WA ?_
        exact aret_of (us := [.c (legs_r (.slice none 0 0) []), .c (ints_r (.slice none 0 0) []), .c (I 2)]) [] (fun _ => .t [.c (legs_r (.slice none 0 0) []), .c (ints_r (.slice none 0 0) []), .c (I 2)]) (fun _ => []) (.tmp rfl (.tmp rfl (.tmp rfl .nil))) (by decide) (ZNK rfl) (fun _ => .tL (C0 rfl)) (fun _ => .nil) (fun _ => ⟨_, _, by rw [hv, if_neg (by omega), if_neg (by omega)], rfl⟩)
      have hv0 : splV l cs i at_ = 0 := by rw [hsp, if_neg (by omega)]
      have hil : i < l.length := by omega
      refine ZZ ?_
      refine aw_cut (fun F H => ∃ cL : Nat, F = [(1, .c (ints_r w cs)), (2, .c (I i)), (3, .c (I at_)), (12, .p 0 0 0), (13, .o 1 0 ((l.map Leg.row).length + 1) cL)] ∧ H = [.box (x.row.map .c), .arr 64 2 cL ((l.map Leg.row).take i ++ [I at_, I x.limit] :: (l.map Leg.row).drop i)]) ?_ ?_ wk_aw
      · refine ZZ ?_
        refine aw_regionM [[(0, none), (2, none), (3, none), (4, none), (5, none), (6, none), (1, some [2, 3, 4, 5, 6]), (7, some [0, 2]), (8, some []), (9, none)], [(0, none), (2, none), (3, none), (4, none), (5, none), (6, none), (7, some [0, 2]), (1, some [2, 3, 4, 5, 6]), (8, some []), (9, none)]] hMixed (by kernel_rfl) ?_
        focus
          refine WM ?_
          refine am_two (by rfl) (by rfl) (by rfl) ?_ ?_
          rotate_left
          refine WM ?_
          refine am_ef (i := 1) (by rfl) (by rfl) rfl rfl (ef_call0 true (fun _ => cloneL_a (l.map Leg.row) v (okLegs l) (by omega)) rfl .fn rfl (by decide) (by kernel_rfl) rfl (fun _ => .cons (.c rfl) .nil) (fun _ _ u Hr ⟨c, _, hu, hH⟩ => by rw [hu, hH]; exact ⟨.o, fun o ho => by rw [List.mem_singleton.1 ho]; exact leg_flat _ _⟩)) ?_
          rintro _ _ ⟨_, _, _, ⟨c1, hc1, rfl, rfl⟩, hF, hH⟩
          (try simp only [nsl, Nat.reduceAdd, Nat.reduceLT, Nat.reduceSub] at hF); (try simp only [nsl, Nat.reduceAdd, Nat.reduceLT, Nat.reduceSub] at hH); subst hF; subst hH
          refine ⟨AGX, ?_⟩
          first | refine am_ef (i := 8) (by rfl) (by rfl) rfl rfl (ef_call [1, 2] (fun _ => [.arr 64 2 c1 (l.map Leg.row), .arr 64 2 1 [[I at_, I x.limit]]]) false (fun _ => insL_a [I at_, I x.limit] (l.map Leg.row) i c1 (by omega) (by omega) (by omega)) rfl .fn rfl (by decide) (by kernel_rfl) rfl (fun _ => .cons (.o rfl rfl) (.cons (.c rfl) (.cons (.o rfl rfl) .nil))) (by decide) (fun _ => .arr rfl rfl (.arr rfl rfl .nil)) (by simp)) ?_ | refine am_ef (i := 8) (by rfl) (by rfl) rfl rfl (ef_call [2, 1] (fun _ => [.arr 64 2 c1 (l.map Leg.row), .arr 64 2 1 [[I at_, I x.limit]]]) false (fun _ => insL_a [I at_, I x.limit] (l.map Leg.row) i c1 (by omega) (by omega) (by omega)) rfl .fn rfl (by decide) (by kernel_rfl) rfl (fun _ => .cons (.o rfl rfl) (.cons (.c rfl) (.cons (.o rfl rfl) .nil))) (by decide) (fun _ => .arr rfl rfl (.arr rfl rfl .nil)) (by simp)) ?_
          rintro F1 H1 ⟨_, _, _, _, ⟨c2, rfl, rfl⟩ | ⟨c2, rfl, rfl⟩, hF, hH⟩ <;> ((try simp only [List.set_cons_zero, List.set_cons_succ, updH, posOf, lentArr, killF, killO, killV, AV.has, AV.hasL, AV.emb, AV.embL, OB.emb, embB, List.filter_cons, List.filter_nil, List.getElem?_cons_zero, List.getElem?_cons_succ, List.getD_cons_zero, List.getD_cons_succ, List.drop_succ_cons, List.drop_zero, List.drop_nil, List.contains_cons, List.contains_nil, Nat.reduceBEq, Nat.reduceEqDiff, beq_self_eq_true, Bool.or_false, Bool.false_or, Bool.or_true, Bool.true_or, Bool.false_eq_true, Option.map_some, Option.map_none, List.map_cons, List.map_nil, List.cons_append, List.nil_append, List.append_nil, List.length_cons, List.length_nil, Nat.reduceAdd, Nat.reduceLT, Nat.reduceSub, if_true, if_false, Nat.zero_add, Nat.add_zero, Nat.sub_zero, Nat.lt_irrefl, Nat.not_lt_zero, Nat.zero_lt_one, Nat.lt_add_one] at hF); (try simp only [List.set_cons_zero, List.set_cons_succ, updH, posOf, lentArr, killF, killO, killV, AV.has, AV.hasL, AV.emb, AV.embL, OB.emb, embB, List.filter_cons, List.filter_nil, List.getElem?_cons_zero, List.getElem?_cons_succ, List.getD_cons_zero, List.getD_cons_succ, List.drop_succ_cons, List.drop_zero, List.drop_nil, List.contains_cons, List.contains_nil, Nat.reduceBEq, Nat.reduceEqDiff, beq_self_eq_true, Bool.or_false, Bool.false_or, Bool.or_true, Bool.true_or, Bool.false_eq_true, Option.map_some, Option.map_none, List.map_cons, List.map_nil, List.cons_append, List.nil_append, List.append_nil, List.length_cons, List.length_nil, Nat.reduceAdd, Nat.reduceLT, Nat.reduceSub, if_true, if_false, Nat.zero_add, Nat.add_zero, Nat.sub_zero, Nat.lt_irrefl, Nat.not_lt_zero, Nat.zero_lt_one, Nat.lt_add_one] at hH); subst hF; subst hH; refine ⟨AGX, ?_⟩; refine WN ?_)
          rotate_right
          refine am_ef (i := 1) (by rfl) (by rfl) rfl rfl (ef_call0 true (fun _ => cloneL_a (l.map Leg.row) v (okLegs l) (by omega)) rfl .fn rfl (by decide) (by kernel_rfl) rfl (fun _ => .cons (.c rfl) .nil) (fun _ _ u Hr ⟨c, _, hu, hH⟩ => by rw [hu, hH]; exact ⟨.o, fun o ho => by rw [List.mem_singleton.1 ho]; exact leg_flat _ _⟩)) ?_
          rintro _ _ ⟨_, _, _, ⟨c1, hc1, rfl, rfl⟩, hF, hH⟩
          (try simp only [nsl, Nat.reduceAdd, Nat.reduceLT, Nat.reduceSub] at hF); (try simp only [nsl, Nat.reduceAdd, Nat.reduceLT, Nat.reduceSub] at hH); subst hF; subst hH
          refine ⟨AGX, ?_⟩
          refine WM ?_
          first | refine am_ef (i := 8) (by rfl) (by rfl) rfl rfl (ef_call [1, 2] (fun _ => [.arr 64 2 c1 (l.map Leg.row), .arr 64 2 1 [[I at_, I x.limit]]]) false (fun _ => insL_a [I at_, I x.limit] (l.map Leg.row) i c1 (by omega) (by omega) (by omega)) rfl .fn rfl (by decide) (by kernel_rfl) rfl (fun _ => .cons (.o rfl rfl) (.cons (.c rfl) (.cons (.o rfl rfl) .nil))) (by decide) (fun _ => .arr rfl rfl (.arr rfl rfl .nil)) (by simp)) ?_ | refine am_ef (i := 8) (by rfl) (by rfl) rfl rfl (ef_call [2, 1] (fun _ => [.arr 64 2 c1 (l.map Leg.row), .arr 64 2 1 [[I at_, I x.limit]]]) false (fun _ => insL_a [I at_, I x.limit] (l.map Leg.row) i c1 (by omega) (by omega) (by omega)) rfl .fn rfl (by decide) (by kernel_rfl) rfl (fun _ => .cons (.o rfl rfl) (.cons (.c rfl) (.cons (.o rfl rfl) .nil))) (by decide) (fun _ => .arr rfl rfl (.arr rfl rfl .nil)) (by simp)) ?_
          rintro F1 H1 ⟨_, _, _, _, ⟨c2, rfl, rfl⟩ | ⟨c2, rfl, rfl⟩, hF, hH⟩ <;> ((try simp only [List.set_cons_zero, List.set_cons_succ, updH, posOf, lentArr, killF, killO, killV, AV.has, AV.hasL, AV.emb, AV.embL, OB.emb, embB, List.filter_cons, List.filter_nil, List.getElem?_cons_zero, List.getElem?_cons_succ, List.getD_cons_zero, List.getD_cons_succ, List.drop_succ_cons, List.drop_zero, List.drop_nil, List.contains_cons, List.contains_nil, Nat.reduceBEq, Nat.reduceEqDiff, beq_self_eq_true, Bool.or_false, Bool.false_or, Bool.or_true, Bool.true_or, Bool.false_eq_true, Option.map_some, Option.map_none, List.map_cons, List.map_nil, List.cons_append, List.nil_append, List.append_nil, List.length_cons, List.length_nil, Nat.reduceAdd, Nat.reduceLT, Nat.reduceSub, if_true, if_false, Nat.zero_add, Nat.add_zero, Nat.sub_zero, Nat.lt_irrefl, Nat.not_lt_zero, Nat.zero_lt_one, Nat.lt_add_one] at hF); (try simp only [List.set_cons_zero, List.set_cons_succ, updH, posOf, lentArr, killF, killO, killV, AV.has, AV.hasL, AV.emb, AV.embL, OB.emb, embB, List.filter_cons, List.filter_nil, List.getElem?_cons_zero, List.getElem?_cons_succ, List.getD_cons_zero, List.getD_cons_succ, List.drop_succ_cons, List.drop_zero, List.drop_nil, List.contains_cons, List.contains_nil, Nat.reduceBEq, Nat.reduceEqDiff, beq_self_eq_true, Bool.or_false, Bool.false_or, Bool.or_true, Bool.true_or, Bool.false_eq_true, Option.map_some, Option.map_none, List.map_cons, List.map_nil, List.cons_append, List.nil_append, List.append_nil, List.length_cons, List.length_nil, Nat.reduceAdd, Nat.reduceLT, Nat.reduceSub, if_true, if_false, Nat.zero_add, Nat.add_zero, Nat.sub_zero, Nat.lt_irrefl, Nat.not_lt_zero, Nat.zero_lt_one, Nat.lt_add_one] at hH); subst hF; subst hH; refine ⟨AGX, ?_⟩; refine WN ?_)
        all_goals first
          | exact wk_of [some 0, some 1] (fun _ => [(1, .c (ints_r w cs)), (2, .c (I i)), (3, .c (I at_)), (12, .p 0 0 0), (13, .o 1 0 ((l.map Leg.row).length + 1) c2)]) (fun _ => [.box (x.row.map .c), .arr 64 2 c2 ((l.map Leg.row).take i ++ [I at_, I x.limit] :: (l.map Leg.row).drop i)]) (by decide) (ZNL hE) ZCF ZCH (fun _ => ⟨c2, rfl, rfl⟩)
          | exact wk_of [some 0, some 2] (fun _ => [(1, .c (ints_r w cs)), (2, .c (I i)), (3, .c (I at_)), (12, .p 0 0 0), (13, .o 1 0 ((l.map Leg.row).length + 1) c2)]) (fun _ => [.box (x.row.map .c), .arr 64 2 c2 ((l.map Leg.row).take i ++ [I at_, I x.limit] :: (l.map Leg.row).drop i)]) (by decide) (ZNL hE) ZCF ZCH (fun _ => ⟨c2, rfl, rfl⟩)
          | exact wk_of [some 0, some 3] (fun _ => [(1, .c (ints_r w cs)), (2, .c (I i)), (3, .c (I at_)), (12, .p 0 0 0), (13, .o 1 0 ((l.map Leg.row).length + 1) c2)]) (fun _ => [.box (x.row.map .c), .arr 64 2 c2 ((l.map Leg.row).take i ++ [I at_, I x.limit] :: (l.map Leg.row).drop i)]) (by decide) (ZNL hE) ZCF ZCH (fun _ => ⟨c2, rfl, rfl⟩)
      rintro F H ⟨cL, rfl, rfl⟩
      have hdr : (l.map Leg.row).drop i = [I x.long, I x.limit] :: (l.map Leg.row).drop (i + 1) := by
        rw [← List.map_drop, drop_consk hx, List.map_cons, List.map_drop]
      have hti : ((l.map Leg.row).take i).length = i := by simp; omega
      have hr1 : ((l.map Leg.row).take i ++ [I at_, I x.limit] :: (l.map Leg.row).drop i)[i + 1]? = some [I x.long, I x.limit] := by
        rw [hdr, List.getElem?_append_right (by omega), hti, show i + 1 - i = 1 from by omega]; rfl
      have hset : ((l.map Leg.row).take i ++ [I at_, I x.limit] :: (l.map Leg.row).drop i).set (i + 1) [I (x.long - at_), I x.limit] = (splL l i x at_).map Leg.row := by
        rw [hdr, List.set_append_right _ _ (by omega), hti, show i + 1 - i = 1 from by omega]
        simp [splL, List.map_append, List.map_take, List.map_drop]
      have hfL : ((((l.map Leg.row).take i ++ [I at_, I x.limit] :: (l.map Leg.row).drop i).set (i + 1) [I (x.long - at_), I x.limit]).drop 0).take ((l.map Leg.row).length + 1) = (splL l i x at_).map Leg.row := by
        rw [hset, List.drop_zero, List.take_of_length_le (by simp [splL]; omega)]
      have hlL : ((splL l i x at_).map Leg.row).length = (l.map Leg.row).length + 1 := by simp [splL]; omega
      have hci : (cs.map fun z => [I z]).take i ++ [I x.limit] :: (cs.map fun z => [I z]).drop i = (splC cs i x).map fun z => [I z] := by
        simp [splC, List.map_append, List.map_take, List.map_drop]
      have hlI : ((splC cs i x).map fun z => [I z]).length = (cs.map fun z => [I z]).length + 1 := by simp [splC]; omega
      have hfI : (((cs.map fun z => [I z]).take i ++ [I x.limit] :: (cs.map fun z => [I z]).drop i).drop 0).take ((cs.map fun z => [I z]).length + 1) = (splC cs i x).map fun z => [I z] := by
        rw [hci, List.drop_zero, List.take_of_length_le (by omega)]
      refine ZR ?_
      iterate 2 refine WX1 ?_
      refine ZA (rd_addz (z := ((i + 1 : Nat) : Int)) rfl rfl rfl (by omega) (by omega)) ?_
      refine WE ?_
      refine ZZ ?_
      refine aw_regionM [[(0, none), (1, none), (3, none), (4, none), (5, none), (2, some [0, 3, 4, 5]), (6, some [0, 1, 3]), (7, some [0]), (8, none), (9, none), (10, none)], [(0, none), (1, none), (3, none), (4, none), (5, none), (6, some [0, 1, 3]), (2, some [0, 3, 4, 5]), (7, some [0]), (8, none), (9, none), (10, none)]] hMixed (by kernel_rfl) ?_
      focus
        refine WM ?_
        refine am_two (by rfl) (by rfl) (by rfl) ?_ ?_
        rotate_left
        refine WM ?_
        refine am_ef (i := 2) (by rfl) (by rfl) rfl rfl (ef_call0 true (fun _ => cloneI_a (cs.map fun z => [I z]) w (okInts cs) (by omega)) rfl .fn rfl (by decide) (by kernel_rfl) rfl (fun _ => .cons (.c rfl) .nil) (fun _ _ u Hr ⟨c, _, hu, hH⟩ => by rw [hu, hH]; exact ⟨.o, fun o ho => by rw [List.mem_singleton.1 ho]; exact int_flat _ _⟩)) ?_
        rintro _ _ ⟨_, _, _, ⟨c2, hc2, rfl, rfl⟩, hF, hH⟩
        (try simp only [nsl, Nat.reduceAdd, Nat.reduceLT, Nat.reduceSub] at hF); (try simp only [nsl, Nat.reduceAdd, Nat.reduceLT, Nat.reduceSub] at hH); subst hF; subst hH
        refine ⟨AGX, ?_⟩
        first | refine am_ef (i := 7) (by rfl) (by rfl) rfl rfl (ef_call [2, 3] (fun _ => [.arr 3 1 c2 (cs.map fun z => [I z]), .arr 3 1 1 [[I x.limit]]]) false (fun _ => insI_a [I x.limit] (cs.map fun z => [I z]) i c2 (by omega) (by omega) (by omega)) rfl .fn rfl (by decide) (by kernel_rfl) rfl (fun _ => .cons (.o rfl rfl) (.cons (.c rfl) (.cons (.o rfl rfl) .nil))) (by decide) (fun _ => .arr rfl rfl (.arr rfl rfl .nil)) (by simp)) ?_ | refine am_ef (i := 7) (by rfl) (by rfl) rfl rfl (ef_call [3, 2] (fun _ => [.arr 3 1 c2 (cs.map fun z => [I z]), .arr 3 1 1 [[I x.limit]]]) false (fun _ => insI_a [I x.limit] (cs.map fun z => [I z]) i c2 (by omega) (by omega) (by omega)) rfl .fn rfl (by decide) (by kernel_rfl) rfl (fun _ => .cons (.o rfl rfl) (.cons (.c rfl) (.cons (.o rfl rfl) .nil))) (by decide) (fun _ => .arr rfl rfl (.arr rfl rfl .nil)) (by simp)) ?_
        rintro F1 H1 ⟨_, _, _, _, ⟨c3, rfl, rfl⟩ | ⟨c3, rfl, rfl⟩, hF, hH⟩ <;> ((try simp only [List.set_cons_zero, List.set_cons_succ, updH, posOf, lentArr, killF, killO, killV, AV.has, AV.hasL, AV.emb, AV.embL, OB.emb, embB, List.filter_cons, List.filter_nil, List.getElem?_cons_zero, List.getElem?_cons_succ, List.getD_cons_zero, List.getD_cons_succ, List.drop_succ_cons, List.drop_zero, List.drop_nil, List.contains_cons, List.contains_nil, Nat.reduceBEq, Nat.reduceEqDiff, beq_self_eq_true, Bool.or_false, Bool.false_or, Bool.or_true, Bool.true_or, Bool.false_eq_true, Option.map_some, Option.map_none, List.map_cons, List.map_nil, List.cons_append, List.nil_append, List.append_nil, List.length_cons, List.length_nil, Nat.reduceAdd, Nat.reduceLT, Nat.reduceSub, if_true, if_false, Nat.zero_add, Nat.add_zero, Nat.sub_zero, Nat.lt_irrefl, Nat.not_lt_zero, Nat.zero_lt_one, Nat.lt_add_one] at hF); (try simp only [List.set_cons_zero, List.set_cons_succ, updH, posOf, lentArr, killF, killO, killV, AV.has, AV.hasL, AV.emb, AV.embL, OB.emb, embB, List.filter_cons, List.filter_nil, List.getElem?_cons_zero, List.getElem?_cons_succ, List.getD_cons_zero, List.getD_cons_succ, List.drop_succ_cons, List.drop_zero, List.drop_nil, List.contains_cons, List.contains_nil, Nat.reduceBEq, Nat.reduceEqDiff, beq_self_eq_true, Bool.or_false, Bool.false_or, Bool.or_true, Bool.true_or, Bool.false_eq_true, Option.map_some, Option.map_none, List.map_cons, List.map_nil, List.cons_append, List.nil_append, List.append_nil, List.length_cons, List.length_nil, Nat.reduceAdd, Nat.reduceLT, Nat.reduceSub, if_true, if_false, Nat.zero_add, Nat.add_zero, Nat.sub_zero, Nat.lt_irrefl, Nat.not_lt_zero, Nat.zero_lt_one, Nat.lt_add_one] at hH); subst hF; subst hH; refine ⟨AGX, ?_⟩; refine WN ?_)
        rotate_right
        refine am_ef (i := 2) (by rfl) (by rfl) rfl rfl (ef_call0 true (fun _ => cloneI_a (cs.map fun z => [I z]) w (okInts cs) (by omega)) rfl .fn rfl (by decide) (by kernel_rfl) rfl (fun _ => .cons (.c rfl) .nil) (fun _ _ u Hr ⟨c, _, hu, hH⟩ => by rw [hu, hH]; exact ⟨.o, fun o ho => by rw [List.mem_singleton.1 ho]; exact int_flat _ _⟩)) ?_
        rintro _ _ ⟨_, _, _, ⟨c2, hc2, rfl, rfl⟩, hF, hH⟩
        (try simp only [nsl, Nat.reduceAdd, Nat.reduceLT, Nat.reduceSub] at hF); (try simp only [nsl, Nat.reduceAdd, Nat.reduceLT, Nat.reduceSub] at hH); subst hF; subst hH
        refine ⟨AGX, ?_⟩
        refine WM ?_
        first | refine am_ef (i := 7) (by rfl) (by rfl) rfl rfl (ef_call [2, 3] (fun _ => [.arr 3 1 c2 (cs.map fun z => [I z]), .arr 3 1 1 [[I x.limit]]]) false (fun _ => insI_a [I x.limit] (cs.map fun z => [I z]) i c2 (by omega) (by omega) (by omega)) rfl .fn rfl (by decide) (by kernel_rfl) rfl (fun _ => .cons (.o rfl rfl) (.cons (.c rfl) (.cons (.o rfl rfl) .nil))) (by decide) (fun _ => .arr rfl rfl (.arr rfl rfl .nil)) (by simp)) ?_ | refine am_ef (i := 7) (by rfl) (by rfl) rfl rfl (ef_call [3, 2] (fun _ => [.arr 3 1 c2 (cs.map fun z => [I z]), .arr 3 1 1 [[I x.limit]]]) false (fun _ => insI_a [I x.limit] (cs.map fun z => [I z]) i c2 (by omega) (by omega) (by omega)) rfl .fn rfl (by decide) (by kernel_rfl) rfl (fun _ => .cons (.o rfl rfl) (.cons (.c rfl) (.cons (.o rfl rfl) .nil))) (by decide) (fun _ => .arr rfl rfl (.arr rfl rfl .nil)) (by simp)) ?_
        rintro F1 H1 ⟨_, _, _, _, ⟨c3, rfl, rfl⟩ | ⟨c3, rfl, rfl⟩, hF, hH⟩ <;> ((try simp only [List.set_cons_zero, List.set_cons_succ, updH, posOf, lentArr, killF, killO, killV, AV.has, AV.hasL, AV.emb, AV.embL, OB.emb, embB, List.filter_cons, List.filter_nil, List.getElem?_cons_zero, List.getElem?_cons_succ, List.getD_cons_zero, List.getD_cons_succ, List.drop_succ_cons, List.drop_zero, List.drop_nil, List.contains_cons, List.contains_nil, Nat.reduceBEq, Nat.reduceEqDiff, beq_self_eq_true, Bool.or_false, Bool.false_or, Bool.or_true, Bool.true_or, Bool.false_eq_true, Option.map_some, Option.map_none, List.map_cons, List.map_nil, List.cons_append, List.nil_append, List.append_nil, List.length_cons, List.length_nil, Nat.reduceAdd, Nat.reduceLT, Nat.reduceSub, if_true, if_false, Nat.zero_add, Nat.add_zero, Nat.sub_zero, Nat.lt_irrefl, Nat.not_lt_zero, Nat.zero_lt_one, Nat.lt_add_one] at hF); (try simp only [List.set_cons_zero, List.set_cons_succ, updH, posOf, lentArr, killF, killO, killV, AV.has, AV.hasL, AV.emb, AV.embL, OB.emb, embB, List.filter_cons, List.filter_nil, List.getElem?_cons_zero, List.getElem?_cons_succ, List.getD_cons_zero, List.getD_cons_succ, List.drop_succ_cons, List.drop_zero, List.drop_nil, List.contains_cons, List.contains_nil, Nat.reduceBEq, Nat.reduceEqDiff, beq_self_eq_true, Bool.or_false, Bool.false_or, Bool.or_true, Bool.true_or, Bool.false_eq_true, Option.map_some, Option.map_none, List.map_cons, List.map_nil, List.cons_append, List.nil_append, List.append_nil, List.length_cons, List.length_nil, Nat.reduceAdd, Nat.reduceLT, Nat.reduceSub, if_true, if_false, Nat.zero_add, Nat.add_zero, Nat.sub_zero, Nat.lt_irrefl, Nat.not_lt_zero, Nat.zero_lt_one, Nat.lt_add_one] at hH); subst hF; subst hH; refine ⟨AGX, ?_⟩; refine WN ?_)
      all_goals first
        | (
          exact aret_of (us := [.o 1 0 ((l.map Leg.row).length + 1) cL, .o 2 0 ((cs.map fun z => [I z]).length + 1) c3, .c (I 0)]) [] (fun g => .t [.c (legs_r (g (.o 1 0 ((l.map Leg.row).length + 1) cL)) (splL l i x at_)), .c (ints_r (g (.o 2 0 ((cs.map fun z => [I z]).length + 1) c3)) (splC cs i x)), .c (I 0)]) (fun _ => []) (.tmp rfl (.tmp rfl (.tmp rfl .nil))) (by decide) (ZNK rfl) (fun _ => .tL (.cons (.frz rfl rfl hfL hlL rfl) (.cons (.frz rfl rfl hfI hlI rfl) (.cons (.c rfl) .nil)))) (fun _ => .nil) (fun _ => ⟨_, _, by rw [hv0, if_pos rfl, if_pos rfl, hsr], rfl⟩)
          )
        | (
          exact aret_of (us := [.o 1 0 ((l.map Leg.row).length + 1) cL, .o 3 0 ((cs.map fun z => [I z]).length + 1) c3, .c (I 0)]) [] (fun g => .t [.c (legs_r (g (.o 1 0 ((l.map Leg.row).length + 1) cL)) (splL l i x at_)), .c (ints_r (g (.o 3 0 ((cs.map fun z => [I z]).length + 1) c3)) (splC cs i x)), .c (I 0)]) (fun _ => []) (.tmp rfl (.tmp rfl (.tmp rfl .nil))) (by decide) (ZNK rfl) (fun _ => .tL (.cons (.frz rfl rfl hfL hlL rfl) (.cons (.frz rfl rfl hfI hlI rfl) (.cons (.c rfl) .nil)))) (fun _ => .nil) (fun _ => ⟨_, _, by rw [hv0, if_pos rfl, if_pos rfl, hsr], rfl⟩)
          )
        | (
          exact aret_of (us := [.o 1 0 ((l.map Leg.row).length + 1) cL, .o 4 0 ((cs.map fun z => [I z]).length + 1) c3, .c (I 0)]) [] (fun g => .t [.c (legs_r (g (.o 1 0 ((l.map Leg.row).length + 1) cL)) (splL l i x at_)), .c (ints_r (g (.o 4 0 ((cs.map fun z => [I z]).length + 1) c3)) (splC cs i x)), .c (I 0)]) (fun _ => []) (.tmp rfl (.tmp rfl (.tmp rfl .nil))) (by decide) (ZNK rfl) (fun _ => .tL (.cons (.frz rfl rfl hfL hlL rfl) (.cons (.frz rfl rfl hfI hlI rfl) (.cons (.c rfl) .nil)))) (fun _ => .nil) (fun _ => ⟨_, _, by rw [hv0, if_pos rfl, if_pos rfl, hsr], rfl⟩)
          )
    · have hv : splV l cs i at_ = 1 := by rw [hsp, if_pos (by omega)]
      rcases (by omega : at_ < 1 ∨ (¬ at_ < 1 ∧ x.long ≤ at_)) with ha1 | ⟨ha1, ha2⟩
      · refine WA ?_
        refine aw_cond_t rfl ?_
        refine WA ?_
        exact aret_of (us := [.c (legs_r (.slice none 0 0) []), .c (ints_r (.slice none 0 0) []), .c (I 1)]) [] (fun _ => .t [.c (legs_r (.slice none 0 0) []), .c (ints_r (.slice none 0 0) []), .c (I 1)]) (fun _ => []) (.tmp rfl (.tmp rfl (.tmp rfl .nil))) (by decide) (ZNK rfl) (fun _ => .tL (C0 rfl)) (fun _ => .nil) (fun _ => ⟨_, _, by rw [hv, if_neg (by omega), if_neg (by omega)], rfl⟩)
      · refine WA ?_
        refine aw_cond_t rfl ?_
        refine WA ?_
        exact aret_of (us := [.c (legs_r (.slice none 0 0) []), .c (ints_r (.slice none 0 0) []), .c (I 1)]) [] (fun _ => .t [.c (legs_r (.slice none 0 0) []), .c (ints_r (.slice none 0 0) []), .c (I 1)]) (fun _ => []) (.tmp rfl (.tmp rfl (.tmp rfl .nil))) (by decide) (ZNK rfl) (fun _ => .tL (C0 rfl)) (fun _ => .nil) (fun _ => ⟨_, _, by rw [hv, if_neg (by omega), if_neg (by omega)], rfl⟩)
  · have hv : splV l cs leg at_ = 8 := by rw [splV, if_neg h0, splF, if_pos (by omega)]
    rcases (by omega : leg < 0 ∨ (¬ leg < 0 ∧ (l.length : Int) ≤ leg)) with hl1 | ⟨hl1, hl2⟩
    · refine WA ?_
      refine aw_cond_t rfl ?_
      refine WA ?_
      exact aret_of (us := [.c (legs_r (.slice none 0 0) []), .c (ints_r (.slice none 0 0) []), .c (I 8)]) [] (fun _ => .t [.c (legs_r (.slice none 0 0) []), .c (ints_r (.slice none 0 0) []), .c (I 8)]) (fun _ => []) (.tmp rfl (.tmp rfl (.tmp rfl .nil))) (by decide) (ZNK rfl) (fun _ => .tL (C0 rfl)) (fun _ => .nil) (fun _ => ⟨_, _, by rw [hv, if_neg (by omega), if_neg (by omega)], rfl⟩)
    · refine WA ?_
      refine aw_cond_t rfl ?_
      refine WA ?_
      exact aret_of (us := [.c (legs_r (.slice none 0 0) []), .c (ints_r (.slice none 0 0) []), .c (I 8)]) [] (fun _ => .t [.c (legs_r (.slice none 0 0) []), .c (ints_r (.slice none 0 0) []), .c (I 8)]) (fun _ => []) (.tmp rfl (.tmp rfl (.tmp rfl .nil))) (by decide) (ZNK rfl) (fun _ => .tL (C0 rfl)) (fun _ => .nil) (fun _ => ⟨_, _, by rw [hv, if_neg (by omega), if_neg (by omega)], rfl⟩)
end Go.Proofs.Ytpbedckdnoogpaa

/- The stream's paths of a head, by value. -/
namespace Go.Proofs.Ytpbedckdnoogpaa
open Go Go.RowKit
set_option maxRecDepth 100000
theorem aw_cutq {P : Program} {N : Nat} {E : Env} {F : Fm} {H : List OB} {Q : Exit → Fm → List OB → Prop} {c : Code} (J : Fm → List OB → Prop) (h : AW P N E c F H (ASeq (fun F' H' => Wk N E F' H' J) Q)) (hJ : ∀ F H, J F H → Q .normal F H) (hK : ∀ F H, Wk N E F H (fun F H => Q .normal F H) → Q .normal F H) : AW P N E c F H Q :=
  aw_mono h fun e F H hh => by
    cases e
    case normal =>
      refine hK F H (fun S ρ a w hR => ?_)
      obtain ⟨S', ρ', F', H', h1, h2⟩ := hh S ρ a w hR
      exact ⟨S', ρ', F', H', hJ _ _ h1, h2⟩
    all_goals exact hh
theorem ahead_a (v : Value) (zs : List Int) (a : Int) (hs : StrOk zs) (h0 : 0 ≤ a) (h1 : a ≤ 700000000) :
    ACalls Try.prog 69 [.p 0 0 0] [strm v zs a] fun u H => ∃ (v' : Value) (l : List Pt) (b : Bool) (a' : Int), u = pth v' l b ∧ H = [strm v zs a'] ∧ a ≤ a' ∧ a' ≤ a + 40 ∧ l.length ≤ 1000 := by
  refine acalls_of (N := 57) Try.func69 rfl rfl (by simp) fun E hE => ?_
  refine WA ?_
  refine WR ?_
  refine al_ef rfl (ef_callm false (fun _ => flip_a 4 _ _ _ hs (by omega) (by omega) (by simp only [in64]; omega)) rfl .fn rfl (by decide) (by kernel_rfl) rfl rfl (fun _g => .cons (.p rfl) (.cons (.c rfl) .nil)) (fun _g => .cons (.c rfl) (.cons (.c rfl) .nil)) (by simp)) ?_
  rintro F1 H1 ⟨_, _, _, _, ⟨bb, rfl, hq⟩, hF, hH⟩
  injection hq with hq1 hq2; subst hq1; subst hq2
  (try simp only [nsl, Nat.reduceAdd, Nat.reduceLT, Nat.reduceSub] at hF); (try simp only [nsl, Nat.reduceAdd, Nat.reduceLT, Nat.reduceSub] at hH); subst hF; subst hH
  refine WE ?_
  refine WA ?_
  refine WR ?_
  refine al_ef rfl (ef_callm false (fun _ => range_a 1 6 _ _ _ hs (by omega) (by omega) (by omega) (by omega) (by omega) (by omega)) rfl .fn rfl (by decide) (by kernel_rfl) rfl rfl (fun _g => .cons (.p rfl) (.cons (.c rfl) (.cons (.c rfl) .nil))) (fun _g => .cons (.c rfl) (.cons (.c rfl) .nil)) (by simp)) ?_
  rintro F1 H1 ⟨_, _, _, _, ⟨rr, ar, rfl, hq, hr3, hr4, hr1, hr2, _⟩, hF, hH⟩
  injection hq with hq1 hq2; subst hq1; subst hq2
  (try simp only [nsl, Nat.reduceAdd, Nat.reduceLT, Nat.reduceSub] at hF); (try simp only [nsl, Nat.reduceAdd, Nat.reduceLT, Nat.reduceSub] at hH); subst hF; subst hH
  have h64r : in64 rr := by simp only [in64]; omega
  refine WE ?_
  refine aw_loopw (fun m F H => ∃ (k c : Nat) (l : List Pt) (x y a' : Int), m + k = rr.toNat ∧ a ≤ a' ∧ a' ≤ a + 3 + 2 * k ∧ l.length = k ∧ F = [(0, .p 0 0 0), (2, .p 1 0 0), (3, .p 2 0 0), (4, .p 3 0 0), (10, .c (I rr)), (11, .c (I k))] ∧ H = [strm v zs a', .box [.c (.r (.slice none 0 0) []), .c (B false)], .box [.o 4 0 l.length c, .c (B bb)], .box [.c (I x), .c (I y)], .arr 145 2 c (l.map Pt.row)]) ?_ ?_
  · refine wk_of [some 0, some 1, some 2, some 3, none] (fun _ => [(0, .p 0 0 0), (2, .p 1 0 0), (3, .p 2 0 0), (4, .p 3 0 0), (10, .c (I rr)), (11, .c (I (0 : Nat)))]) (fun _ => [strm v zs _, .box [.c (.r (.slice none 0 0) []), .c (B false)], .box [.o 4 0 ([] : List Pt).length 0, .c (B bb)], .box [.c (I 0), .c (I 0)], .arr 145 2 0 (([] : List Pt).map Pt.row)]) (by decide) (ZNL hE) ZCF ZCH (fun _ => ?_)
    exact ⟨rr.toNat, 0, 0, [], 0, 0, _, by omega, by omega, by omega, rfl, rfl, rfl⟩
  rintro m F H ⟨k, c, l, x, y, a', hmk, ha1, ha2, hl, rfl, rfl⟩
  refine WA ?_
  refine aw_if rfl (fun hlt => ?_) (fun hge => ?_)
  · refine WR ?_
    refine al_ef rfl (Zapp (KA (t := 94) rfl)) ?_
    rintro _ _ ⟨_, cc, hcc, rfl, rfl⟩
    refine WE ?_
    refine aw_cutq (fun F H => ∃ x' y' a2 : Int, a' ≤ a2 ∧ a2 ≤ a' + 2 ∧ F = [(0, .p 0 0 0), (2, .p 1 0 0), (3, .p 2 0 0), (4, .p 3 0 0), (10, .c (I rr)), (11, .c (I k))] ∧ H = [strm v zs a2, .box [.c (.r (.slice none 0 0) []), .c (B false)], .box [.o 4 0 (l ++ [(⟨x, y⟩ : Pt)]).length cc, .c (B bb)], .box [.c (I x'), .c (I y')], .arr 145 2 cc ((l ++ [(⟨x, y⟩ : Pt)]).map Pt.row)]) ?_ ?_ wk_aw
    · refine ZZ ?_
      refine aw_regionM [[(0, none), (1, none), (2, none), (6, none), (7, none), (8, none), (3, some [0, 1, 2, 6, 7, 8]), (4, some [0, 1, 6, 7, 8]), (5, none), (9, some [0, 1, 2, 6, 7, 8, 5]), (10, some [0, 1, 6, 7, 5]), (11, none), (12, none), (13, some [])], [(0, none), (1, none), (2, none), (6, none), (7, none), (8, none), (3, some [0, 1, 2, 6, 7, 8]), (9, some [0, 1, 2, 6, 7, 8]), (4, some [0, 1, 6, 7, 8]), (5, none), (10, some [0, 1, 6, 7, 5]), (11, none), (12, none), (13, some [])], [(0, none), (1, none), (2, none), (6, none), (7, none), (8, none), (9, some [0, 1, 2, 6, 7, 8]), (3, some [0, 1, 2, 6, 7, 8]), (4, some [0, 1, 6, 7, 8]), (5, none), (10, some [0, 1, 6, 7, 5]), (11, none), (12, none), (13, some [])]] hMixed (by kernel_rfl) ?_
      focus
        refine WM ?_
        refine am_two (by rfl) (by rfl) (by rfl) ?_ ?_
        rotate_left
        refine WM ?_
        refine am_ef (i := 4) (by rfl) (by rfl) rfl rfl (ef_callm true (fun _ => pick_a [0, 10, -10, 30, 5] _ _ _ _ hs (by omega) (by omega) (by simp) (by simp)) rfl .fn rfl (by decide) (by kernel_rfl) rfl rfl (fun _g => .cons (.p rfl) (.cons (.frz rfl rfl rfl rfl rfl) .nil)) (fun _g => .cons (.c rfl) (.cons (.c rfl) .nil)) (fun _ _ _ _ ⟨_, hu, hH, _⟩ => by rw [hu, hH]; exact ⟨.c (.inl trivial), strm_flat (.inr ⟨0, _, rfl, by simp⟩)⟩)) ?_
        rintro F1 H1 ⟨_, _, _, _, ⟨p, rfl, hq, hrmp⟩, hF, hH⟩
        injection hq with hq1 hq2; subst hq1; subst hq2
        (try simp only [nsl, Nat.reduceAdd, Nat.reduceLT, Nat.reduceSub] at hF); (try simp only [nsl, Nat.reduceAdd, Nat.reduceLT, Nat.reduceSub] at hH); subst hF; subst hH
        refine ⟨AGX, ?_⟩
        refine WM ?_
        refine am_ef (i := 10) (by rfl) (by rfl) rfl rfl (ef_callm true (fun _ => pick_a [0, 0, 10, -10, 25] _ _ _ _ hs (by omega) (by omega) (by simp) (by simp)) rfl .fn rfl (by decide) (by kernel_rfl) rfl rfl (fun _g => .cons (.p rfl) (.cons (.frz rfl rfl rfl rfl rfl) .nil)) (fun _g => .cons (.c rfl) (.cons (.c rfl) .nil)) (fun _ _ _ _ ⟨_, hu, hH, _⟩ => by rw [hu, hH]; exact ⟨.c (.inl trivial), strm_flat (.inr ⟨0, _, rfl, by simp⟩)⟩)) ?_
        rintro F1 H1 ⟨_, _, _, _, ⟨q, rfl, hq, hrmq⟩, hF, hH⟩
        injection hq with hq1 hq2; subst hq1; subst hq2
        (try simp only [nsl, Nat.reduceAdd, Nat.reduceLT, Nat.reduceSub] at hF); (try simp only [nsl, Nat.reduceAdd, Nat.reduceLT, Nat.reduceSub] at hH); subst hF; subst hH
        refine ⟨AGX, ?_⟩
        refine WN ?_
        rotate_right
        refine WM ?_
        refine am_two (by rfl) (by rfl) (by rfl) ?_ ?_
        rotate_left
        refine WM ?_
        refine am_ef (i := 4) (by rfl) (by rfl) rfl rfl (ef_callm true (fun _ => pick_a [0, 10, -10, 30, 5] _ _ _ _ hs (by omega) (by omega) (by simp) (by simp)) rfl .fn rfl (by decide) (by kernel_rfl) rfl rfl (fun _g => .cons (.p rfl) (.cons (.frz rfl rfl rfl rfl rfl) .nil)) (fun _g => .cons (.c rfl) (.cons (.c rfl) .nil)) (fun _ _ _ _ ⟨_, hu, hH, _⟩ => by rw [hu, hH]; exact ⟨.c (.inl trivial), strm_flat (.inr ⟨0, _, rfl, by simp⟩)⟩)) ?_
        rintro F1 H1 ⟨_, _, _, _, ⟨p, rfl, hq, hrmp⟩, hF, hH⟩
        injection hq with hq1 hq2; subst hq1; subst hq2
        (try simp only [nsl, Nat.reduceAdd, Nat.reduceLT, Nat.reduceSub] at hF); (try simp only [nsl, Nat.reduceAdd, Nat.reduceLT, Nat.reduceSub] at hH); subst hF; subst hH
        refine ⟨AGX, ?_⟩
        refine WM ?_
        refine am_ef (i := 10) (by rfl) (by rfl) rfl rfl (ef_callm true (fun _ => pick_a [0, 0, 10, -10, 25] _ _ _ _ hs (by omega) (by omega) (by simp) (by simp)) rfl .fn rfl (by decide) (by kernel_rfl) rfl rfl (fun _g => .cons (.p rfl) (.cons (.frz rfl rfl rfl rfl rfl) .nil)) (fun _g => .cons (.c rfl) (.cons (.c rfl) .nil)) (fun _ _ _ _ ⟨_, hu, hH, _⟩ => by rw [hu, hH]; exact ⟨.c (.inl trivial), strm_flat (.inr ⟨0, _, rfl, by simp⟩)⟩)) ?_
        rintro F1 H1 ⟨_, _, _, _, ⟨q, rfl, hq, hrmq⟩, hF, hH⟩
        injection hq with hq1 hq2; subst hq1; subst hq2
        (try simp only [nsl, Nat.reduceAdd, Nat.reduceLT, Nat.reduceSub] at hF); (try simp only [nsl, Nat.reduceAdd, Nat.reduceLT, Nat.reduceSub] at hH); subst hF; subst hH
        refine ⟨AGX, ?_⟩
        refine WN ?_
        rotate_right
        refine am_ef (i := 4) (by rfl) (by rfl) rfl rfl (ef_callm true (fun _ => pick_a [0, 10, -10, 30, 5] _ _ _ _ hs (by omega) (by omega) (by simp) (by simp)) rfl .fn rfl (by decide) (by kernel_rfl) rfl rfl (fun _g => .cons (.p rfl) (.cons (.frz rfl rfl rfl rfl rfl) .nil)) (fun _g => .cons (.c rfl) (.cons (.c rfl) .nil)) (fun _ _ _ _ ⟨_, hu, hH, _⟩ => by rw [hu, hH]; exact ⟨.c (.inl trivial), strm_flat (.inr ⟨0, _, rfl, by simp⟩)⟩)) ?_
        rintro F1 H1 ⟨_, _, _, _, ⟨p, rfl, hq, hrmp⟩, hF, hH⟩
        injection hq with hq1 hq2; subst hq1; subst hq2
        (try simp only [nsl, Nat.reduceAdd, Nat.reduceLT, Nat.reduceSub] at hF); (try simp only [nsl, Nat.reduceAdd, Nat.reduceLT, Nat.reduceSub] at hH); subst hF; subst hH
        refine ⟨AGX, ?_⟩
        refine WM ?_
        refine am_ef (i := 10) (by rfl) (by rfl) rfl rfl (ef_callm true (fun _ => pick_a [0, 0, 10, -10, 25] _ _ _ _ hs (by omega) (by omega) (by simp) (by simp)) rfl .fn rfl (by decide) (by kernel_rfl) rfl rfl (fun _g => .cons (.p rfl) (.cons (.frz rfl rfl rfl rfl rfl) .nil)) (fun _g => .cons (.c rfl) (.cons (.c rfl) .nil)) (fun _ _ _ _ ⟨_, hu, hH, _⟩ => by rw [hu, hH]; exact ⟨.c (.inl trivial), strm_flat (.inr ⟨0, _, rfl, by simp⟩)⟩)) ?_
        rintro F1 H1 ⟨_, _, _, _, ⟨q, rfl, hq, hrmq⟩, hF, hH⟩
        injection hq with hq1 hq2; subst hq1; subst hq2
        (try simp only [nsl, Nat.reduceAdd, Nat.reduceLT, Nat.reduceSub] at hF); (try simp only [nsl, Nat.reduceAdd, Nat.reduceLT, Nat.reduceSub] at hH); subst hF; subst hH
        refine ⟨AGX, ?_⟩
        refine WN ?_
      all_goals refine wk_of [some 0, some 1, some 2, some 3, some 4] (fun _ => [(0, .p 0 0 0), (2, .p 1 0 0), (3, .p 2 0 0), (4, .p 3 0 0), (10, .c (I rr)), (11, .c (I k))]) (fun _ => [strm v zs _, .box [.c (.r (.slice none 0 0) []), .c (B false)], .box [.o 4 0 (l ++ [(⟨x, y⟩ : Pt)]).length cc, .c (B bb)], .box [.c (I _), .c (I _)], .arr 145 2 cc ((l ++ [(⟨x, y⟩ : Pt)]).map Pt.row)]) (by decide) (ZNL hE) ZCF ZCH (fun _ => ?_)
      all_goals exact ⟨_, _, a' + 1 + 1, by omega, by omega, rfl, rfl⟩
    rintro F H ⟨x', y', a2, hx1, hx2, rfl, rfl⟩
    refine WA ?_
    refine wk_of [some 0, some 1, some 2, some 3, some 4] (fun _ => [(0, .p 0 0 0), (2, .p 1 0 0), (3, .p 2 0 0), (4, .p 3 0 0), (10, .c (I rr)), (11, .c (I (k + 1 : Nat)))]) (fun _ => [strm v zs _, .box [.c (.r (.slice none 0 0) []), .c (B false)], .box [.o 4 0 (l ++ [(⟨x, y⟩ : Pt)]).length cc, .c (B bb)], .box [.c (I _), .c (I _)], .arr 145 2 cc ((l ++ [(⟨x, y⟩ : Pt)]).map Pt.row)]) (by decide) (ZNL hE) ZCF ZCH (fun _ => ?_)
    exact ⟨m - 1, by omega, k + 1, cc, l ++ [⟨x, y⟩], x', y', a2, by omega, by omega, by omega, by simp; omega, rfl, rfl⟩
  refine ZZ ?_
  refine WR ?_
  refine al_ef rfl (ef_callm false (fun _ => flip_a 15 _ _ _ hs (by omega) (by omega) (by simp only [in64]; omega)) rfl .fn rfl (by decide) (by kernel_rfl) rfl rfl (fun _g => .cons (.p rfl) (.cons (.c rfl) .nil)) (fun _g => .cons (.c rfl) (.cons (.c rfl) .nil)) (by simp)) ?_
  rintro F1 H1 ⟨_, _, _, _, ⟨b2, rfl, hq⟩, hF, hH⟩
  injection hq with hq1 hq2; subst hq1; subst hq2
  (try simp only [nsl, Nat.reduceAdd, Nat.reduceLT, Nat.reduceSub] at hF); (try simp only [nsl, Nat.reduceAdd, Nat.reduceLT, Nat.reduceSub] at hH); subst hF; subst hH
  refine WO ?_
  refine al_nil ?_
  refine aseq_n ?_
  refine aw_cut (fun F H => ∃ (l : List Pt) (c : Nat) (a' : Int), a ≤ a' ∧ a' ≤ a + 25 ∧ l.length ≤ 1000 ∧ F = [(0, .p 0 0 0), (2, .p 1 0 0), (3, .p 2 0 0)] ∧ H = [strm v zs a', .box [.c (.r (.slice none 0 0) []), .c (B false)], .box [.o 3 0 l.length c, .c (B bb)], .arr 145 2 c (l.map Pt.row)]) ?_ ?_ wk_aw
  · refine aw_cond rfl (fun _ => ?_) (fun _ => ?_)
    · refine ZZ ?_
      refine aw_regionM [[(0, none), (1, none), (2, none), (3, none), (4, none), (5, none), (7, none), (6, some [0, 1, 7]), (8, some [0, 1, 2, 3, 4, 5, 7]), (9, some [0, 1]), (10, none), (11, none), (12, some [])], [(0, none), (1, none), (2, none), (3, none), (4, none), (5, none), (7, none), (8, some [0, 1, 2, 3, 4, 5, 7]), (6, some [0, 1, 7]), (9, some [0, 1]), (10, none), (11, none), (12, some [])]] hMixed (by kernel_rfl) ?_
      focus
        refine WM ?_
        refine am_two (by rfl) (by rfl) (by rfl) ?_ ?_
        rotate_left
        refine WM ?_
        refine am_ef (i := 6) (by rfl) (by rfl) rfl rfl (ef_callm false (fun _ => next_a _ _ _ _ hs (by omega) (by omega) (by simp only [in64]; omega)) rfl .fn rfl (by decide) (by kernel_rfl) rfl rfl (fun _g => .cons (.p rfl) (.cons (.c rfl) .nil)) (fun _g => .cons (.c rfl) (.cons (.c rfl) .nil)) (by simp)) ?_
        rintro F1 H1 ⟨_, _, _, _, ⟨r, rfl, hq, hr1, hr2⟩, hF, hH⟩
        injection hq with hq1 hq2; subst hq1; subst hq2
        (try simp only [nsl, Nat.reduceAdd, Nat.reduceLT, Nat.reduceSub] at hF); (try simp only [nsl, Nat.reduceAdd, Nat.reduceLT, Nat.reduceSub] at hH); subst hF; subst hH
        obtain ⟨i, rfl⟩ : ∃ i : Nat, r = i := ⟨r.toNat, by omega⟩
        have hk : i < l.length := by have := hr2 (by omega); omega
        obtain ⟨p, hp⟩ : ∃ p, l[i]? = some p := ⟨_, List.getElem?_eq_getElem hk⟩
        have hrow : (l.map Pt.row)[i]? = some [I p.x, I p.y] := by rw [List.getElem?_map, hp]; rfl
        refine ⟨AGX, ?_⟩
        refine am_ef (i := 9) (by rfl) (by rfl) rfl rfl (ef_callm true (fun _ => pick_a [100000, 100001, -9223372036854775808] _ _ _ _ hs (by omega) (by omega) (by simp) (by simp)) rfl .fn rfl (by decide) (by kernel_rfl) rfl rfl (fun _g => .cons (.p rfl) (.cons (.frz rfl rfl rfl rfl rfl) .nil)) (fun _g => .cons (.c rfl) (.cons (.c rfl) .nil)) (fun _ _ _ _ ⟨_, hu, hH, _⟩ => by rw [hu, hH]; exact ⟨.c (.inl trivial), strm_flat (.inr ⟨0, _, rfl, by simp⟩)⟩)) ?_
        rintro F1 H1 ⟨_, _, _, _, ⟨q, rfl, hq, hrmq⟩, hF, hH⟩
        injection hq with hq1 hq2; subst hq1; subst hq2
        (try simp only [nsl, Nat.reduceAdd, Nat.reduceLT, Nat.reduceSub] at hF); (try simp only [nsl, Nat.reduceAdd, Nat.reduceLT, Nat.reduceSub] at hH); subst hF; subst hH
        refine ⟨AGX, ?_⟩
        refine WN ?_
        rotate_right
        refine am_ef (i := 6) (by rfl) (by rfl) rfl rfl (ef_callm false (fun _ => next_a _ _ _ _ hs (by omega) (by omega) (by simp only [in64]; omega)) rfl .fn rfl (by decide) (by kernel_rfl) rfl rfl (fun _g => .cons (.p rfl) (.cons (.c rfl) .nil)) (fun _g => .cons (.c rfl) (.cons (.c rfl) .nil)) (by simp)) ?_
        rintro F1 H1 ⟨_, _, _, _, ⟨r, rfl, hq, hr1, hr2⟩, hF, hH⟩
        injection hq with hq1 hq2; subst hq1; subst hq2
        (try simp only [nsl, Nat.reduceAdd, Nat.reduceLT, Nat.reduceSub] at hF); (try simp only [nsl, Nat.reduceAdd, Nat.reduceLT, Nat.reduceSub] at hH); subst hF; subst hH
        obtain ⟨i, rfl⟩ : ∃ i : Nat, r = i := ⟨r.toNat, by omega⟩
        have hk : i < l.length := by have := hr2 (by omega); omega
        obtain ⟨p, hp⟩ : ∃ p, l[i]? = some p := ⟨_, List.getElem?_eq_getElem hk⟩
        have hrow : (l.map Pt.row)[i]? = some [I p.x, I p.y] := by rw [List.getElem?_map, hp]; rfl
        refine ⟨AGX, ?_⟩
        refine WM ?_
        refine am_ef (i := 9) (by rfl) (by rfl) rfl rfl (ef_callm true (fun _ => pick_a [100000, 100001, -9223372036854775808] _ _ _ _ hs (by omega) (by omega) (by simp) (by simp)) rfl .fn rfl (by decide) (by kernel_rfl) rfl rfl (fun _g => .cons (.p rfl) (.cons (.frz rfl rfl rfl rfl rfl) .nil)) (fun _g => .cons (.c rfl) (.cons (.c rfl) .nil)) (fun _ _ _ _ ⟨_, hu, hH, _⟩ => by rw [hu, hH]; exact ⟨.c (.inl trivial), strm_flat (.inr ⟨0, _, rfl, by simp⟩)⟩)) ?_
        rintro F1 H1 ⟨_, _, _, _, ⟨q, rfl, hq, hrmq⟩, hF, hH⟩
        injection hq with hq1 hq2; subst hq1; subst hq2
        (try simp only [nsl, Nat.reduceAdd, Nat.reduceLT, Nat.reduceSub] at hF); (try simp only [nsl, Nat.reduceAdd, Nat.reduceLT, Nat.reduceSub] at hH); subst hF; subst hH
        refine ⟨AGX, ?_⟩
        refine WN ?_
      all_goals refine wk_of [some 0, some 1, some 2, some 4] (fun _ => [(0, .p 0 0 0), (2, .p 1 0 0), (3, .p 2 0 0)]) (fun _ => [strm v zs _, .box [.c (.r (.slice none 0 0) []), .c (B false)], .box [.o 3 0 (l.set i (⟨q, p.y⟩ : Pt)).length c, .c (B bb)], .arr 145 2 c ((l.set i (⟨q, p.y⟩ : Pt)).map Pt.row)]) (by decide) (ZNL hE) ZCF ZCH (fun _ => ?_)
      all_goals exact ⟨l.set i ⟨q, p.y⟩, c, _, by omega, by omega, by simp; omega, rfl, rfl⟩
    · refine ZZ ?_
      refine wk_of [some 0, some 1, some 2, some 4] (fun _ => [(0, .p 0 0 0), (2, .p 1 0 0), (3, .p 2 0 0)]) (fun _ => [strm v zs _, .box [.c (.r (.slice none 0 0) []), .c (B false)], .box [.o 3 0 l.length c, .c (B bb)], .arr 145 2 c (l.map Pt.row)]) (by decide) (ZNL hE) ZCF ZCH (fun _ => ?_)
      exact ⟨l, c, _, by omega, by omega, by omega, rfl, rfl⟩
  rintro F H ⟨l, c, a', ha1, ha2, hl, rfl, rfl⟩
  refine WR ?_
  refine al_ef rfl (ef_callm false (fun _ => flip_a 40 _ _ _ hs (by omega) (by omega) (by simp only [in64]; omega)) rfl .fn rfl (by decide) (by kernel_rfl) rfl rfl (fun _g => .cons (.p rfl) (.cons (.c rfl) .nil)) (fun _g => .cons (.c rfl) (.cons (.c rfl) .nil)) (by simp)) ?_
  rintro F1 H1 ⟨_, _, _, _, ⟨b3, rfl, hq⟩, hF, hH⟩
  injection hq with hq1 hq2; subst hq1; subst hq2
  (try simp only [nsl, Nat.reduceAdd, Nat.reduceLT, Nat.reduceSub] at hF); (try simp only [nsl, Nat.reduceAdd, Nat.reduceLT, Nat.reduceSub] at hH); subst hF; subst hH
  refine WO ?_
  refine al_nil ?_
  refine aseq_n ?_
  refine aw_cut (fun F H => ∃ (l : List Pt) (c : Nat) (a' : Int), a ≤ a' ∧ a' ≤ a + 40 ∧ l.length ≤ 1000 ∧ F = [(2, .p 1 0 0), (3, .p 2 0 0)] ∧ H = [strm v zs a', .box [.c (.r (.slice none 0 0) []), .c (B false)], .box [.o 3 0 l.length c, .c (B bb)], .arr 145 2 c (l.map Pt.row)]) ?_ ?_ wk_aw
  · refine aw_cond rfl (fun _ => ?_) (fun _ => ?_)
    · refine WR ?_
      refine al_ef rfl (ef_callm true (fun _ => pick_a [0, 1, 3, 500, 501] _ _ _ _ hs (by omega) (by omega) (by simp) (by simp)) rfl .fn rfl (by decide) (by kernel_rfl) rfl rfl (fun _g => .cons (.p rfl) (.cons (.frz rfl rfl rfl rfl rfl) .nil)) (fun _g => .cons (.c rfl) (.cons (.c rfl) .nil)) (fun _ _ _ _ ⟨_, hu, hH, _⟩ => by rw [hu, hH]; exact ⟨.c (.inl trivial), strm_flat (.inr ⟨0, _, rfl, by simp⟩)⟩)) ?_
      rintro F1 H1 ⟨_, _, _, _, ⟨q, rfl, hq, hrmq⟩, hF, hH⟩
      injection hq with hq1 hq2; subst hq1; subst hq2
      (try simp only [nsl, Nat.reduceAdd, Nat.reduceLT, Nat.reduceSub] at hF); (try simp only [nsl, Nat.reduceAdd, Nat.reduceLT, Nat.reduceSub] at hH); subst hF; subst hH
      obtain ⟨n, hn, rfl⟩ : ∃ n : Nat, n ≤ 501 ∧ q = n := by
        simp only [List.mem_cons, List.not_mem_nil, or_false] at hrmq
        exact ⟨q.toNat, by omega, by omega⟩
      refine al_ef rfl (ef_call [4] (fun _ => [.arr 145 2 1 [[I 0, I 0]]]) false (fun _ => repeat_a n (by omega)) rfl .fn rfl (by decide) (by kernel_rfl) rfl (fun _ => .cons (.o rfl rfl) (.cons (.c rfl) .nil)) (by decide) (fun _ => .arr rfl rfl .nil) (by simp)) ?_
      rintro F1 H1 ⟨_, _, _, _, ⟨rfl, rfl⟩, hF, hH⟩
      (try simp only [List.set_cons_zero, List.set_cons_succ, updH, posOf, lentArr, killF, killO, killV, AV.has, AV.hasL, AV.emb, AV.embL, OB.emb, embB, List.filter_cons, List.filter_nil, List.getElem?_cons_zero, List.getElem?_cons_succ, List.getD_cons_zero, List.getD_cons_succ, List.drop_succ_cons, List.drop_zero, List.drop_nil, List.contains_cons, List.contains_nil, Nat.reduceBEq, Nat.reduceEqDiff, beq_self_eq_true, Bool.or_false, Bool.false_or, Bool.or_true, Bool.true_or, Bool.false_eq_true, Option.map_some, Option.map_none, List.map_cons, List.map_nil, List.cons_append, List.nil_append, List.append_nil, List.length_cons, List.length_nil, Nat.reduceAdd, Nat.reduceLT, Nat.reduceSub, if_true, if_false, Nat.zero_add, Nat.add_zero, Nat.sub_zero, Nat.lt_irrefl, Nat.not_lt_zero, Nat.zero_lt_one, Nat.lt_add_one] at hF); (try simp only [List.set_cons_zero, List.set_cons_succ, updH, posOf, lentArr, killF, killO, killV, AV.has, AV.hasL, AV.emb, AV.embL, OB.emb, embB, List.filter_cons, List.filter_nil, List.getElem?_cons_zero, List.getElem?_cons_succ, List.getD_cons_zero, List.getD_cons_succ, List.drop_succ_cons, List.drop_zero, List.drop_nil, List.contains_cons, List.contains_nil, Nat.reduceBEq, Nat.reduceEqDiff, beq_self_eq_true, Bool.or_false, Bool.false_or, Bool.or_true, Bool.true_or, Bool.false_eq_true, Option.map_some, Option.map_none, List.map_cons, List.map_nil, List.cons_append, List.nil_append, List.append_nil, List.length_cons, List.length_nil, Nat.reduceAdd, Nat.reduceLT, Nat.reduceSub, if_true, if_false, Nat.zero_add, Nat.add_zero, Nat.sub_zero, Nat.lt_irrefl, Nat.not_lt_zero, Nat.zero_lt_one, Nat.lt_add_one] at hH); subst hF; subst hH
      refine WE ?_
      have e5 : List.replicate n [I 0, I 0] = (List.replicate n (⟨0, 0⟩ : Pt)).map Pt.row := by simp
      refine wk_of [some 0, some 1, some 2, some 6] (fun _ => [(2, .p 1 0 0), (3, .p 2 0 0)]) (fun _ => [strm v zs _, .box [.c (.r (.slice none 0 0) []), .c (B false)], .box [.o 3 0 (List.replicate n (⟨0, 0⟩ : Pt)).length n, .c (B bb)], .arr 145 2 n ((List.replicate n (⟨0, 0⟩ : Pt)).map Pt.row)]) (by decide) (ZNL hE) ZCF ZCH (fun _ => ?_)
      exact ⟨List.replicate n ⟨0, 0⟩, n, _, by omega, by omega, by simp; omega, rfl, rfl⟩
    · refine ZZ ?_
      refine wk_of [some 0, some 1, some 2, some 3] (fun _ => [(2, .p 1 0 0), (3, .p 2 0 0)]) (fun _ => [strm v zs _, .box [.c (.r (.slice none 0 0) []), .c (B false)], .box [.o 3 0 l.length c, .c (B bb)], .arr 145 2 c (l.map Pt.row)]) (by decide) (ZNL hE) ZCF ZCH (fun _ => ?_)
      exact ⟨l, c, _, by omega, by omega, by omega, rfl, rfl⟩
  rintro F H ⟨l, c, a', ha1, ha2, hl, rfl, rfl⟩
  refine WA ?_
  exact aret_of (us := [.a [.o 3 0 l.length c, .c (B bb)]]) [some 0] (fun g => .a [.c (.r (g (.o 3 0 l.length c)) (l.map Pt.row)), .c (B bb)]) (fun _ => [strm v zs a']) (.cella rfl (KK (t := 96) rfl) (Cells.box rfl) (by simp) rfl .nil) (by decide) (ZNK rfl) (fun _ => .aL (.cons (.frz rfl rfl (by rw [List.drop_zero, List.take_of_length_le (by simp)]) (by simp) rfl) (.cons (.c rfl) .nil))) ZCH (fun _ => ⟨_, l, bb, a', rfl, rfl, ha1, ha2, hl⟩)
end Go.Proofs.Ytpbedckdnoogpaa

/- The law PathsDriven, walked. -/
namespace Go.Proofs.Ytpbedckdnoogpaa
open Go Go.RowKit
set_option maxRecDepth 100000
theorem reachV_ok {f : Int} {x : Leg} {ch : Int} (h : reachV f x ch = 0) : x.good ∧ (1 ≤ ch ∧ ch ≤ 10000000) ∧ 0 ≤ f ∧ f ≤ x.limit := by
  unfold reachV at h
  split at h
  · omega
  · obtain ⟨hx, hc⟩ := oneF_ok (x := x) (ch := ch) (by omega)
    split at h
    · exact ⟨hx, hc, by omega⟩
    · omega
theorem splR_len (l : List Leg) (cs : List Int) (leg at_ : Int) : (splR l cs leg at_).1.length ≤ l.length + 2 ∧ (splR l cs leg at_).2.length ≤ cs.length + 1 := by
  unfold splR
  split
  · simp only [splL, splC, List.length_append, List.length_cons, List.length_take, List.length_drop]; omega
  · simp
theorem legsPt_len {l : List Pt} {b : Bool} {n : Int} (h : movF l b n = 0) : (legsPt l b n).length ≤ 500 ∧ (cornD l b n).length ≤ 500 := by
  obtain ⟨h1, _⟩ := difs_ok (pathF_ok (movF_ok h).1).1
  have := cornL_len (difs l b) n ((difs l b).length - 1)
  exact ⟨by unfold legsPt; simpa using h1, by unfold cornD; omega⟩
theorem movF_of {l : List Pt} {b : Bool} {n : Int} (h : pathF l b n = 0) : movF l b n = if (difs l b).length = 0 then 8 else 0 := by
  unfold movF; rw [if_neg (by omega)]
theorem brakeV_first {s ch : Int} : firstK [if s < 0 ∨ 100000 < s then 1 else 0, changeF ch] = brakeV s ch := by
  unfold brakeV
  by_cases h : s < 0 ∨ 100000 < s
  · have hb : ¬ (0 ≤ s ∧ s ≤ 100000) := by omega
    rw [if_pos h, if_neg hb]; simp [firstK]
  · have hb : 0 ≤ s ∧ s ≤ 100000 := by omega
    rw [if_neg h, if_pos hb]
    by_cases hc : changeF ch = 0 <;> simp [firstK, hc]
theorem reachV_first {f : Int} {x : Leg} {ch : Int} : firstK [legsF [x], changeF ch, if f < 0 ∨ x.limit < f then 1 else 0] = reachV f x ch := by
  have h1 : legsF [x] = if legBad x then 1 else 0 := by unfold legsF; simp
  unfold reachV oneF
  rw [h1]
  cases hb : legBad x
  · by_cases hc : changeF ch = 0
    · by_cases h : f < 0 ∨ x.limit < f
      · have h2 : ¬ (0 ≤ f ∧ f ≤ x.limit) := by omega
        rw [if_pos h, if_neg h2]; simp [firstK, hc]
      · have h2 : 0 ≤ f ∧ f ≤ x.limit := by omega
        rw [if_neg h, if_pos h2]; simp [firstK, hc]
    · simp [firstK, hc]
  · simp [firstK]
set_option maxHeartbeats 4000000 in
theorem law_paths (v : Value) (zs : List Int) (hs : StrOk zs) : ACalls Try.prog 8 [.c (.r v (zs.map fun z => [I z]))] [] fun u H => u = .c (B true) := by
  refine acalls_of (N := 276) Try.func8 rfl rfl (by simp) fun E hE => ?_
  refine WA ?_
  refine WA ?_
  refine WR ?_
  refine al_ef rfl (ef_callm false (fun _ => ahead_a v zs _ hs (by omega) (by omega)) rfl .fn rfl (by decide) (by kernel_rfl) rfl rfl (fun _g => .cons (.p rfl) .nil) (fun _g => .cons (.c rfl) (.cons (.c rfl) .nil)) (by simp)) ?_
  rintro F1 H1 ⟨_, _, _, _, ⟨vp, ps, pb, ap, rfl, hq, hp1, hp2, hp3⟩, hF, hH⟩
  injection hq with hq1 hq2; subst hq1; subst hq2
  (try simp only [nsl, Nat.reduceAdd, Nat.reduceLT, Nat.reduceSub] at hF); (try simp only [nsl, Nat.reduceAdd, Nat.reduceLT, Nat.reduceSub] at hH); subst hF; subst hH
  refine WO ?_
  refine al_ef rfl (ef_callm true (fun _ => pick_a [80, 100, 3, 0, 100000, 100001] _ _ _ _ hs (by omega) (by omega) (by simp) (by simp)) rfl .fn rfl (by decide) (by kernel_rfl) rfl rfl (fun _g => .cons (.p rfl) (.cons (.frz rfl rfl rfl rfl rfl) .nil)) (fun _g => .cons (.c rfl) (.cons (.c rfl) .nil)) (fun _ _ _ _ ⟨_, hu, hH, _⟩ => by rw [hu, hH]; exact ⟨.c (.inl trivial), strm_flat (.inr ⟨0, _, rfl, by simp⟩)⟩)) ?_
  rintro F1 H1 ⟨_, _, _, _, ⟨lim, rfl, hq, hrmlim⟩, hF, hH⟩
  injection hq with hq1 hq2; subst hq1; subst hq2
  (try simp only [nsl, Nat.reduceAdd, Nat.reduceLT, Nat.reduceSub] at hF); (try simp only [nsl, Nat.reduceAdd, Nat.reduceLT, Nat.reduceSub] at hH); subst hF; subst hH
  refine WE ?_
  refine WR ?_
  refine al_ef rfl (ef_callm false (fun _ => leglist_a 5 v zs _ hs (by omega) (by omega) (by omega) (by omega)) rfl .fn rfl (by decide) (by kernel_rfl) rfl rfl (fun _g => .cons (.p rfl) (.cons (.c rfl) .nil)) (fun _g => .cons (.c rfl) (.cons (.c rfl) .nil)) (by simp)) ?_
  rintro F1 H1 ⟨_, _, _, _, ⟨vl, l, al, rfl, hq, hl1, hl2, hl3⟩, hF, hH⟩
  injection hq with hq1 hq2; subst hq1; subst hq2
  (try simp only [nsl, Nat.reduceAdd, Nat.reduceLT, Nat.reduceSub] at hF); (try simp only [nsl, Nat.reduceAdd, Nat.reduceLT, Nat.reduceSub] at hH); subst hF; subst hH
  have e1 : (l.map Leg.row).length = l.length := by simp
  refine WE ?_
  refine WR ?_
  refine al_ef rfl (ef_callm false (fun _ => cornerlist_a (l.map Leg.row).length v zs _ hs (by omega) (by omega) (by omega) (by omega)) rfl .fn rfl (by decide) (by kernel_rfl) rfl rfl (fun _g => .cons (.p rfl) (.cons (.c rfl) .nil)) (fun _g => .cons (.c rfl) (.cons (.c rfl) .nil)) (by simp)) ?_
  rintro F1 H1 ⟨_, _, _, _, ⟨vc, cs, ac, rfl, hq, hc1, hc2, hc3⟩, hF, hH⟩
  injection hq with hq1 hq2; subst hq1; subst hq2
  (try simp only [nsl, Nat.reduceAdd, Nat.reduceLT, Nat.reduceSub] at hF); (try simp only [nsl, Nat.reduceAdd, Nat.reduceLT, Nat.reduceSub] at hH); subst hF; subst hH
  refine WO ?_
  refine al_ef rfl (ef_callm false (fun _ => change_a v zs _ hs (by omega) (by omega)) rfl .fn rfl (by decide) (by kernel_rfl) rfl rfl (fun _g => .cons (.p rfl) .nil) (fun _g => .cons (.c rfl) (.cons (.c rfl) .nil)) (by simp)) ?_
  rintro F1 H1 ⟨_, _, _, _, ⟨ch, rfl, hq, hch⟩, hF, hH⟩
  injection hq with hq1 hq2; subst hq1; subst hq2
  (try simp only [nsl, Nat.reduceAdd, Nat.reduceLT, Nat.reduceSub] at hF); (try simp only [nsl, Nat.reduceAdd, Nat.reduceLT, Nat.reduceSub] at hH); subst hF; subst hH
  refine WO ?_
  refine al_ef rfl (ef_callm true (fun _ => pick_a [0, 10, 50, 99, -1, 100000, 100001] _ _ _ _ hs (by omega) (by omega) (by simp) (by simp)) rfl .fn rfl (by decide) (by kernel_rfl) rfl rfl (fun _g => .cons (.p rfl) (.cons (.frz rfl rfl rfl rfl rfl) .nil)) (fun _g => .cons (.c rfl) (.cons (.c rfl) .nil)) (fun _ _ _ _ ⟨_, hu, hH, _⟩ => by rw [hu, hH]; exact ⟨.c (.inl trivial), strm_flat (.inr ⟨0, _, rfl, by simp⟩)⟩)) ?_
  rintro F1 H1 ⟨_, _, _, _, ⟨sp, rfl, hq, hrmsp⟩, hF, hH⟩
  injection hq with hq1 hq2; subst hq1; subst hq2
  (try simp only [nsl, Nat.reduceAdd, Nat.reduceLT, Nat.reduceSub] at hF); (try simp only [nsl, Nat.reduceAdd, Nat.reduceLT, Nat.reduceSub] at hH); subst hF; subst hH
  refine WO ?_
  refine al_ef rfl (ef_callm true (fun _ => pick_a [0, 0, 1, 3, -1] _ _ _ _ hs (by omega) (by omega) (by simp) (by simp)) rfl .fn rfl (by decide) (by kernel_rfl) rfl rfl (fun _g => .cons (.p rfl) (.cons (.frz rfl rfl rfl rfl rfl) .nil)) (fun _g => .cons (.c rfl) (.cons (.c rfl) .nil)) (fun _ _ _ _ ⟨_, hu, hH, _⟩ => by rw [hu, hH]; exact ⟨.c (.inl trivial), strm_flat (.inr ⟨0, _, rfl, by simp⟩)⟩)) ?_
  rintro F1 H1 ⟨_, _, _, _, ⟨lg, rfl, hq, hrmlg⟩, hF, hH⟩
  injection hq with hq1 hq2; subst hq1; subst hq2
  (try simp only [nsl, Nat.reduceAdd, Nat.reduceLT, Nat.reduceSub] at hF); (try simp only [nsl, Nat.reduceAdd, Nat.reduceLT, Nat.reduceSub] at hH); subst hF; subst hH
  refine WO ?_
  refine al_ef rfl (ef_callm true (fun _ => pick_a [1, 4, 19, 0, 99, 1000] _ _ _ _ hs (by omega) (by omega) (by simp) (by simp)) rfl .fn rfl (by decide) (by kernel_rfl) rfl rfl (fun _g => .cons (.p rfl) (.cons (.frz rfl rfl rfl rfl rfl) .nil)) (fun _g => .cons (.c rfl) (.cons (.c rfl) .nil)) (fun _ _ _ _ ⟨_, hu, hH, _⟩ => by rw [hu, hH]; exact ⟨.c (.inl trivial), strm_flat (.inr ⟨0, _, rfl, by simp⟩)⟩)) ?_
  rintro F1 H1 ⟨_, _, _, _, ⟨at_, rfl, hq, hrmat_⟩, hF, hH⟩
  injection hq with hq1 hq2; subst hq1; subst hq2
  (try simp only [nsl, Nat.reduceAdd, Nat.reduceLT, Nat.reduceSub] at hF); (try simp only [nsl, Nat.reduceAdd, Nat.reduceLT, Nat.reduceSub] at hH); subst hF; subst hH
  refine WE ?_
  obtain ⟨A, hA⟩ : ∃ W, W = (if movF ps pb lim = 0 then legsPt ps pb lim else []) := ⟨_, rfl⟩
  obtain ⟨Bc, hB⟩ : ∃ W, W = (if movF ps pb lim = 0 then cornD ps pb lim else []) := ⟨_, rfl⟩
  obtain ⟨E1, hE1⟩ : ∃ W, W = movF ps pb lim := ⟨_, rfl⟩
  obtain ⟨Nb, hNb⟩ : ∃ W, W = (if brakeV sp ch = 0 then brakeF sp ch else 0) := ⟨_, rfl⟩
  obtain ⟨E3, hE3⟩ : ∃ W, W = brakeV sp ch := ⟨_, rfl⟩
  obtain ⟨Ys, hYs⟩ : ∃ W, W = (if splV l cs lg at_ = 0 then (splR l cs lg at_).1 else []) := ⟨_, rfl⟩
  obtain ⟨Zs, hZs⟩ : ∃ W, W = (if splV l cs lg at_ = 0 then (splR l cs lg at_).2 else []) := ⟨_, rfl⟩
  obtain ⟨E5, hE5⟩ : ∃ W, W = splV l cs lg at_ := ⟨_, rfl⟩
  obtain ⟨Us, hUs⟩ : ∃ W, W = (if cornersF l cs = 0 then l.reverse else []) := ⟨_, rfl⟩
  obtain ⟨Vs, hVs⟩ : ∃ W, W = (if cornersF l cs = 0 then cs.reverse else []) := ⟨_, rfl⟩
  obtain ⟨E4, hE4⟩ : ∃ W, W = cornersF l cs := ⟨_, rfl⟩
  have hlen : A.length ≤ 1000 ∧ Bc.length ≤ 1000 ∧ Ys.length ≤ 1000 ∧ Zs.length ≤ 1000 ∧ Us.length ≤ 1000 ∧ Vs.length ≤ 1000 := by
    have h1 := splR_len l cs lg at_
    have h2 : movF ps pb lim = 0 → (legsPt ps pb lim).length ≤ 500 ∧ (cornD ps pb lim).length ≤ 500 := fun h => legsPt_len h
    refine ⟨?_, ?_, ?_, ?_, ?_, ?_⟩
    · rw [hA]; split
      · rename_i h; have := (h2 h).1; omega
      · simp
    · rw [hB]; split
      · rename_i h; have := (h2 h).2; omega
      · simp
    · rw [hYs]; split
      · omega
      · simp
    · rw [hZs]; split
      · omega
      · simp
    · rw [hUs]; split
      · simp; omega
      · simp
    · rw [hVs]; split
      · simp; omega
      · simp
  obtain ⟨hl1, hl2, hl3, hl4, hl5, hl6⟩ := hlen
  refine WR ?_
  refine al_ef rfl (ef_call0 false (fun _ => (legs_a ps vp pb lim)) rfl .fn rfl (by decide) (by kernel_rfl) rfl (fun _ => C0 rfl) (by simp)) ?_
  rintro _ _ ⟨_, _, _, ⟨va, rfl, rfl⟩, hF, hH⟩
  rw [← hA, ← hE1] at hF
  (try simp only [nsl, Nat.reduceAdd, Nat.reduceLT, Nat.reduceSub] at hF); (try simp only [nsl, Nat.reduceAdd, Nat.reduceLT, Nat.reduceSub] at hH); subst hF; subst hH
  refine WE ?_
  refine WR ?_
  refine al_ef rfl (ef_call0 false (fun _ => (corners_a ps vp pb lim)) rfl .fn rfl (by decide) (by kernel_rfl) rfl (fun _ => C0 rfl) (by simp)) ?_
  rintro _ _ ⟨_, _, _, ⟨vb, rfl, rfl⟩, hF, hH⟩
  rw [← hB, ← hE1] at hF
  (try simp only [nsl, Nat.reduceAdd, Nat.reduceLT, Nat.reduceSub] at hF); (try simp only [nsl, Nat.reduceAdd, Nat.reduceLT, Nat.reduceSub] at hH); subst hF; subst hH
  refine WE ?_
  refine WR ?_
  refine al_ef rfl (ef_call0 false (fun _ => (brake_a sp ch)) rfl .fn rfl (by decide) (by kernel_rfl) rfl (fun _ => C0 rfl) (by simp)) ?_
  rintro _ _ ⟨_, _, _, ⟨rfl, rfl⟩, hF, hH⟩
  rw [← hNb, ← hE3] at hF
  (try simp only [nsl, Nat.reduceAdd, Nat.reduceLT, Nat.reduceSub] at hF); (try simp only [nsl, Nat.reduceAdd, Nat.reduceLT, Nat.reduceSub] at hH); subst hF; subst hH
  refine WE ?_
  refine WR ?_
  refine al_ef rfl (ef_call0 false (fun _ => (split_a l cs vl vc lg at_ (by omega) (by omega))) rfl .fn rfl (by decide) (by kernel_rfl) rfl (fun _ => C0 rfl) (by simp)) ?_
  rintro _ _ ⟨_, _, _, ⟨vy, vz, rfl, rfl⟩, hF, hH⟩
  rw [← hYs, ← hZs, ← hE5] at hF
  (try simp only [nsl, Nat.reduceAdd, Nat.reduceLT, Nat.reduceSub] at hF); (try simp only [nsl, Nat.reduceAdd, Nat.reduceLT, Nat.reduceSub] at hH); subst hF; subst hH
  refine WE ?_
  refine WR ?_
  refine al_ef rfl (ef_call0 false (fun _ => (back_a l cs vl vc (by omega) (by omega))) rfl .fn rfl (by decide) (by kernel_rfl) rfl (fun _ => C0 rfl) (by simp)) ?_
  rintro _ _ ⟨_, _, _, ⟨vu, vv, rfl, rfl⟩, hF, hH⟩
  rw [← hUs, ← hVs, ← hE4] at hF
  (try simp only [nsl, Nat.reduceAdd, Nat.reduceLT, Nat.reduceSub] at hF); (try simp only [nsl, Nat.reduceAdd, Nat.reduceLT, Nat.reduceSub] at hH); subst hF; subst hH
  refine WE ?_
  refine WR ?_
  refine al_ef rfl (ef_call0 false (fun _ => (qpathfault_a ps vp pb lim)) rfl .fn rfl (by decide) (by kernel_rfl) rfl (fun _ => C0 rfl) (by simp)) ?_
  rintro _ _ ⟨_, _, _, ⟨rfl, rfl⟩, hF, hH⟩
  (try simp only [nsl, Nat.reduceAdd, Nat.reduceLT, Nat.reduceSub] at hF); (try simp only [nsl, Nat.reduceAdd, Nat.reduceLT, Nat.reduceSub] at hH); subst hF; subst hH
  refine WE ?_
  refine WA ?_
  refine WA ?_
  refine WA ?_
  refine WR ?_
  refine al_nil ?_
  refine aseq_n ?_
  refine aw_cut (fun F H => ∃ wa wb, F = [(6, .c (legs_r vl l)), (7, .c (ints_r vc cs)), (8, .c (I ch)), (9, .c (I sp)), (10, .c (I lg)), (11, .c (I at_)), (12, .c (legs_r va A)), (13, .c (I E1)), (14, .c (ints_r vb Bc)), (15, .c (I E1)), (16, .c (I Nb)), (17, .c (I E3)), (18, .c (legs_r vy Ys)), (19, .c (ints_r vz Zs)), (20, .c (I E5)), (21, .c (legs_r vu Us)), (22, .c (ints_r vv Vs)), (23, .c (I E4)), (24, .c (I E1)), (25, .c (I E1)), (26, .c (legs_r wa A)), (27, .c (ints_r wb Bc))] ∧ H = []) ?_ ?_ wk_aw
  · refine aw_if rfl (fun hz => ?_) (fun hz => ?_)
    · obtain ⟨hpf, hlm⟩ := pathF_ok hz
      have hmo := movF_of hz
      have hA2 : legsPt ps pb lim = A := by
        rw [hA, hmo]
        by_cases hd : (difs ps pb).length = 0
        · rw [if_pos hd, if_neg (by decide)]; unfold legsPt; rw [List.eq_nil_of_length_eq_zero hd]; rfl
        · rw [if_neg hd, if_pos rfl]
      have hB2 : cornD ps pb lim = Bc := by
        rw [hB, hmo]
        by_cases hd : (difs ps pb).length = 0
        · rw [if_pos hd, if_neg (by decide)]; unfold cornD; rw [List.eq_nil_of_length_eq_zero hd]; rfl
        · rw [if_neg hd, if_pos rfl]
      have hE2 : (if (difs ps pb).length = 0 then (8 : Int) else 0) = E1 := by rw [hE1, hmo]
      refine WR ?_
      refine al_ef rfl (ef_call0 false (fun _ => (legsof_a ps vp pb lim hpf)) rfl .fn rfl (by decide) (by kernel_rfl) rfl (fun _ => C0 rfl) (by simp)) ?_
      rintro _ _ ⟨_, _, _, ⟨wa, rfl, rfl⟩, hF, hH⟩
      rw [hA2, hE2] at hF
      (try simp only [nsl, Nat.reduceAdd, Nat.reduceLT, Nat.reduceSub] at hF); (try simp only [nsl, Nat.reduceAdd, Nat.reduceLT, Nat.reduceSub] at hH); subst hF; subst hH
      refine WE ?_
      refine WR ?_
      refine al_ef rfl (ef_call0 false (fun _ => (cornersof_a ps vp pb lim hpf hlm)) rfl .fn rfl (by decide) (by kernel_rfl) rfl (fun _ => C0 rfl) (by simp)) ?_
      rintro _ _ ⟨_, _, _, ⟨wb, rfl, rfl⟩, hF, hH⟩
      rw [hB2, hE2] at hF
      (try simp only [nsl, Nat.reduceAdd, Nat.reduceLT, Nat.reduceSub] at hF); (try simp only [nsl, Nat.reduceAdd, Nat.reduceLT, Nat.reduceSub] at hH); subst hF; subst hH
      refine WE ?_
      exact wk_of [] (fun _ => [(6, .c (legs_r vl l)), (7, .c (ints_r vc cs)), (8, .c (I ch)), (9, .c (I sp)), (10, .c (I lg)), (11, .c (I at_)), (12, .c (legs_r va A)), (13, .c (I E1)), (14, .c (ints_r vb Bc)), (15, .c (I E1)), (16, .c (I Nb)), (17, .c (I E3)), (18, .c (legs_r vy Ys)), (19, .c (ints_r vz Zs)), (20, .c (I E5)), (21, .c (legs_r vu Us)), (22, .c (ints_r vv Vs)), (23, .c (I E4)), (24, .c (I E1)), (25, .c (I E1)), (26, .c (legs_r wa A)), (27, .c (ints_r wb Bc))]) (fun _ => []) (by decide) (ZNL hE) ZCF (fun _ => .nil) (fun _ => ⟨wa, wb, rfl, rfl⟩)
    · have hmo : E1 = pathF ps pb lim := by rw [hE1, movF, if_pos hz]
      obtain rfl : A = [] := by rw [hA, ← hE1, if_neg (by omega)]
      obtain rfl : Bc = [] := by rw [hB, ← hE1, if_neg (by omega)]
      refine ZZ ?_
      rw [← hmo]
      exact wk_of [] (fun _ => [(6, .c (legs_r vl l)), (7, .c (ints_r vc cs)), (8, .c (I ch)), (9, .c (I sp)), (10, .c (I lg)), (11, .c (I at_)), (12, .c (legs_r va [])), (13, .c (I E1)), (14, .c (ints_r vb [])), (15, .c (I E1)), (16, .c (I Nb)), (17, .c (I E3)), (18, .c (legs_r vy Ys)), (19, .c (ints_r vz Zs)), (20, .c (I E5)), (21, .c (legs_r vu Us)), (22, .c (ints_r vv Vs)), (23, .c (I E4)), (24, .c (I E1)), (25, .c (I E1)), (26, .c (legs_r (.slice none 0 0) [])), (27, .c (ints_r (.slice none 0 0) []))]) (fun _ => []) (by decide) (ZNL hE) ZCF (fun _ => .nil) (fun _ => ⟨_, _, rfl, rfl⟩)
  rintro F H ⟨wa, wb, rfl, rfl⟩
  have hbf := brakeV_first (s := sp) (ch := ch)
  rw [← hE3] at hbf
  refine ZZ ?_
  refine aw_cut (fun F H => F = [(6, .c (legs_r vl l)), (7, .c (ints_r vc cs)), (8, .c (I ch)), (9, .c (I sp)), (10, .c (I lg)), (11, .c (I at_)), (12, .c (legs_r va A)), (13, .c (I E1)), (14, .c (ints_r vb Bc)), (15, .c (I E1)), (16, .c (I Nb)), (17, .c (I E3)), (18, .c (legs_r vy Ys)), (19, .c (ints_r vz Zs)), (20, .c (I E5)), (21, .c (legs_r vu Us)), (22, .c (ints_r vv Vs)), (23, .c (I E4)), (24, .c (I E1)), (25, .c (I E1)), (26, .c (legs_r wa A)), (27, .c (ints_r wb Bc)), (28, .c (I E3))] ∧ H = []) ?_ ?_ wk_aw
  · rcases (by omega : sp < 0 ∨ (¬ sp < 0 ∧ 100000 < sp) ∨ (¬ sp < 0 ∧ ¬ 100000 < sp)) with h1 | ⟨h1, h2⟩ | ⟨h1, h2⟩
    · rw [if_pos (by omega)] at hbf
      refine WR ?_
      refine al_ef rfl (ef_call0 false (fun _ => (whenk_a true 1)) rfl .fn rfl (by decide) (by kernel_rfl) rfl (fun _ => C0 rfl) (by simp)) ?_
      rintro _ _ ⟨_, _, _, ⟨rfl, rfl⟩, hF, hH⟩
      (try simp only [nsl, Nat.reduceAdd, Nat.reduceLT, Nat.reduceSub] at hF); (try simp only [nsl, Nat.reduceAdd, Nat.reduceLT, Nat.reduceSub] at hH); subst hF; subst hH
      refine WO ?_
      refine al_ef rfl (ef_call0 false (fun _ => (change2_a ch)) rfl .fn rfl (by decide) (by kernel_rfl) rfl (fun _ => C0 rfl) (by simp)) ?_
      rintro _ _ ⟨_, _, _, ⟨rfl, rfl⟩, hF, hH⟩
      (try simp only [nsl, Nat.reduceAdd, Nat.reduceLT, Nat.reduceSub] at hF); (try simp only [nsl, Nat.reduceAdd, Nat.reduceLT, Nat.reduceSub] at hH); subst hF; subst hH
      refine WO ?_
      refine al_ef rfl (ef_call0 true (fun g => errsk_a [1, changeF ch] (g (.o 0 0 2 2)) (by simp)) rfl .fn rfl (by decide) (by kernel_rfl) rfl (fun _ => .cons (.frz rfl rfl rfl rfl rfl) .nil) (fun _ _ _ _ ⟨hu, hH⟩ => by rw [hu, hH]; exact ⟨.c (.inl trivial), fun _ h => by cases h⟩)) ?_
      rintro _ _ ⟨_, _, _, ⟨rfl, rfl⟩, hF, hH⟩
      rw [hbf] at hF
      (try simp only [nsl, Nat.reduceAdd, Nat.reduceLT, Nat.reduceSub] at hF); (try simp only [nsl, Nat.reduceAdd, Nat.reduceLT, Nat.reduceSub] at hH); subst hF; subst hH
      refine WE ?_
      exact wk_of [] (fun _ => [(6, .c (legs_r vl l)), (7, .c (ints_r vc cs)), (8, .c (I ch)), (9, .c (I sp)), (10, .c (I lg)), (11, .c (I at_)), (12, .c (legs_r va A)), (13, .c (I E1)), (14, .c (ints_r vb Bc)), (15, .c (I E1)), (16, .c (I Nb)), (17, .c (I E3)), (18, .c (legs_r vy Ys)), (19, .c (ints_r vz Zs)), (20, .c (I E5)), (21, .c (legs_r vu Us)), (22, .c (ints_r vv Vs)), (23, .c (I E4)), (24, .c (I E1)), (25, .c (I E1)), (26, .c (legs_r wa A)), (27, .c (ints_r wb Bc)), (28, .c (I E3))]) (fun _ => []) (by decide) (ZNL hE) ZCF (fun _ => .nil) (fun _ => ⟨rfl, rfl⟩)
    · rw [if_pos (by omega)] at hbf
      refine WR ?_
      refine al_ef rfl (ef_call0 false (fun _ => (whenk_a true 1)) rfl .fn rfl (by decide) (by kernel_rfl) rfl (fun _ => C0 rfl) (by simp)) ?_
      rintro _ _ ⟨_, _, _, ⟨rfl, rfl⟩, hF, hH⟩
      (try simp only [nsl, Nat.reduceAdd, Nat.reduceLT, Nat.reduceSub] at hF); (try simp only [nsl, Nat.reduceAdd, Nat.reduceLT, Nat.reduceSub] at hH); subst hF; subst hH
      refine WO ?_
      refine al_ef rfl (ef_call0 false (fun _ => (change2_a ch)) rfl .fn rfl (by decide) (by kernel_rfl) rfl (fun _ => C0 rfl) (by simp)) ?_
      rintro _ _ ⟨_, _, _, ⟨rfl, rfl⟩, hF, hH⟩
      (try simp only [nsl, Nat.reduceAdd, Nat.reduceLT, Nat.reduceSub] at hF); (try simp only [nsl, Nat.reduceAdd, Nat.reduceLT, Nat.reduceSub] at hH); subst hF; subst hH
      refine WO ?_
      refine al_ef rfl (ef_call0 true (fun g => errsk_a [1, changeF ch] (g (.o 0 0 2 2)) (by simp)) rfl .fn rfl (by decide) (by kernel_rfl) rfl (fun _ => .cons (.frz rfl rfl rfl rfl rfl) .nil) (fun _ _ _ _ ⟨hu, hH⟩ => by rw [hu, hH]; exact ⟨.c (.inl trivial), fun _ h => by cases h⟩)) ?_
      rintro _ _ ⟨_, _, _, ⟨rfl, rfl⟩, hF, hH⟩
      rw [hbf] at hF
      (try simp only [nsl, Nat.reduceAdd, Nat.reduceLT, Nat.reduceSub] at hF); (try simp only [nsl, Nat.reduceAdd, Nat.reduceLT, Nat.reduceSub] at hH); subst hF; subst hH
      refine WE ?_
      exact wk_of [] (fun _ => [(6, .c (legs_r vl l)), (7, .c (ints_r vc cs)), (8, .c (I ch)), (9, .c (I sp)), (10, .c (I lg)), (11, .c (I at_)), (12, .c (legs_r va A)), (13, .c (I E1)), (14, .c (ints_r vb Bc)), (15, .c (I E1)), (16, .c (I Nb)), (17, .c (I E3)), (18, .c (legs_r vy Ys)), (19, .c (ints_r vz Zs)), (20, .c (I E5)), (21, .c (legs_r vu Us)), (22, .c (ints_r vv Vs)), (23, .c (I E4)), (24, .c (I E1)), (25, .c (I E1)), (26, .c (legs_r wa A)), (27, .c (ints_r wb Bc)), (28, .c (I E3))]) (fun _ => []) (by decide) (ZNL hE) ZCF (fun _ => .nil) (fun _ => ⟨rfl, rfl⟩)
    · rw [if_neg (by omega)] at hbf
      refine WR ?_
      refine al_ef rfl (ef_call0 false (fun _ => (whenk_a false 1)) rfl .fn rfl (by decide) (by kernel_rfl) rfl (fun _ => C0 rfl) (by simp)) ?_
      rintro _ _ ⟨_, _, _, ⟨rfl, rfl⟩, hF, hH⟩
      (try simp only [nsl, Nat.reduceAdd, Nat.reduceLT, Nat.reduceSub] at hF); (try simp only [nsl, Nat.reduceAdd, Nat.reduceLT, Nat.reduceSub] at hH); subst hF; subst hH
      refine WO ?_
      refine al_ef rfl (ef_call0 false (fun _ => (change2_a ch)) rfl .fn rfl (by decide) (by kernel_rfl) rfl (fun _ => C0 rfl) (by simp)) ?_
      rintro _ _ ⟨_, _, _, ⟨rfl, rfl⟩, hF, hH⟩
      (try simp only [nsl, Nat.reduceAdd, Nat.reduceLT, Nat.reduceSub] at hF); (try simp only [nsl, Nat.reduceAdd, Nat.reduceLT, Nat.reduceSub] at hH); subst hF; subst hH
      refine WO ?_
      refine al_ef rfl (ef_call0 true (fun g => errsk_a [0, changeF ch] (g (.o 0 0 2 2)) (by simp)) rfl .fn rfl (by decide) (by kernel_rfl) rfl (fun _ => .cons (.frz rfl rfl rfl rfl rfl) .nil) (fun _ _ _ _ ⟨hu, hH⟩ => by rw [hu, hH]; exact ⟨.c (.inl trivial), fun _ h => by cases h⟩)) ?_
      rintro _ _ ⟨_, _, _, ⟨rfl, rfl⟩, hF, hH⟩
      rw [hbf] at hF
      (try simp only [nsl, Nat.reduceAdd, Nat.reduceLT, Nat.reduceSub] at hF); (try simp only [nsl, Nat.reduceAdd, Nat.reduceLT, Nat.reduceSub] at hH); subst hF; subst hH
      refine WE ?_
      exact wk_of [] (fun _ => [(6, .c (legs_r vl l)), (7, .c (ints_r vc cs)), (8, .c (I ch)), (9, .c (I sp)), (10, .c (I lg)), (11, .c (I at_)), (12, .c (legs_r va A)), (13, .c (I E1)), (14, .c (ints_r vb Bc)), (15, .c (I E1)), (16, .c (I Nb)), (17, .c (I E3)), (18, .c (legs_r vy Ys)), (19, .c (ints_r vz Zs)), (20, .c (I E5)), (21, .c (legs_r vu Us)), (22, .c (ints_r vv Vs)), (23, .c (I E4)), (24, .c (I E1)), (25, .c (I E1)), (26, .c (legs_r wa A)), (27, .c (ints_r wb Bc)), (28, .c (I E3))]) (fun _ => []) (by decide) (ZNL hE) ZCF (fun _ => .nil) (fun _ => ⟨rfl, rfl⟩)
  rintro F H ⟨rfl, rfl⟩
  refine WA ?_
  refine WR ?_
  refine al_nil ?_
  refine aseq_n ?_
  refine aw_cut (fun F H => F = [(6, .c (legs_r vl l)), (7, .c (ints_r vc cs)), (8, .c (I ch)), (9, .c (I sp)), (10, .c (I lg)), (11, .c (I at_)), (12, .c (legs_r va A)), (13, .c (I E1)), (14, .c (ints_r vb Bc)), (15, .c (I E1)), (16, .c (I Nb)), (17, .c (I E3)), (18, .c (legs_r vy Ys)), (19, .c (ints_r vz Zs)), (20, .c (I E5)), (21, .c (legs_r vu Us)), (22, .c (ints_r vv Vs)), (23, .c (I E4)), (24, .c (I E1)), (25, .c (I E1)), (26, .c (legs_r wa A)), (27, .c (ints_r wb Bc)), (28, .c (I E3)), (29, .c (I Nb))] ∧ H = []) ?_ ?_ wk_aw
  · refine aw_if rfl (fun hz => ?_) (fun hz => ?_)
    · have hb0 : brakeV sp ch = 0 := by omega
      have hN2 : brakeF sp ch = Nb := by rw [hNb, if_pos hb0]
      refine WR ?_
      refine al_ef rfl (ef_call0 false (fun _ => (brakeof_a sp ch hb0)) rfl .fn rfl (by decide) (by kernel_rfl) rfl (fun _ => C0 rfl) (by simp)) ?_
      rintro _ _ ⟨_, _, _, ⟨rfl, rfl⟩, hF, hH⟩
      rw [hN2] at hF
      (try simp only [nsl, Nat.reduceAdd, Nat.reduceLT, Nat.reduceSub] at hF); (try simp only [nsl, Nat.reduceAdd, Nat.reduceLT, Nat.reduceSub] at hH); subst hF; subst hH
      refine WE ?_
      exact wk_of [] (fun _ => [(6, .c (legs_r vl l)), (7, .c (ints_r vc cs)), (8, .c (I ch)), (9, .c (I sp)), (10, .c (I lg)), (11, .c (I at_)), (12, .c (legs_r va A)), (13, .c (I E1)), (14, .c (ints_r vb Bc)), (15, .c (I E1)), (16, .c (I Nb)), (17, .c (I E3)), (18, .c (legs_r vy Ys)), (19, .c (ints_r vz Zs)), (20, .c (I E5)), (21, .c (legs_r vu Us)), (22, .c (ints_r vv Vs)), (23, .c (I E4)), (24, .c (I E1)), (25, .c (I E1)), (26, .c (legs_r wa A)), (27, .c (ints_r wb Bc)), (28, .c (I E3)), (29, .c (I Nb))]) (fun _ => []) (by decide) (ZNL hE) ZCF (fun _ => .nil) (fun _ => ⟨rfl, rfl⟩)
    · have hNb0 : Nb = 0 := by rw [hNb, if_neg (by omega)]
      refine ZZ ?_
      exact wk_of [] (fun _ => [(6, .c (legs_r vl l)), (7, .c (ints_r vc cs)), (8, .c (I ch)), (9, .c (I sp)), (10, .c (I lg)), (11, .c (I at_)), (12, .c (legs_r va A)), (13, .c (I E1)), (14, .c (ints_r vb Bc)), (15, .c (I E1)), (16, .c (I Nb)), (17, .c (I E3)), (18, .c (legs_r vy Ys)), (19, .c (ints_r vz Zs)), (20, .c (I E5)), (21, .c (legs_r vu Us)), (22, .c (ints_r vv Vs)), (23, .c (I E4)), (24, .c (I E1)), (25, .c (I E1)), (26, .c (legs_r wa A)), (27, .c (ints_r wb Bc)), (28, .c (I E3)), (29, .c (I Nb))]) (fun _ => []) (by decide) (ZNL hE) ZCF (fun _ => .nil) (fun _ => ⟨rfl, rfl⟩)
  rintro F H ⟨rfl, rfl⟩
  refine WR ?_
  refine al_ef rfl (ef_call0 false (fun _ => (corners2_a l cs vl vc (by omega) (by omega))) rfl .fn rfl (by decide) (by kernel_rfl) rfl (fun _ => C0 rfl) (by simp)) ?_
  rintro _ _ ⟨_, _, _, ⟨rfl, rfl⟩, hF, hH⟩
  rw [← hE4] at hF
  (try simp only [nsl, Nat.reduceAdd, Nat.reduceLT, Nat.reduceSub] at hF); (try simp only [nsl, Nat.reduceAdd, Nat.reduceLT, Nat.reduceSub] at hH); subst hF; subst hH
  refine WE ?_
  refine WA ?_
  refine WA ?_
  refine WA ?_
  refine WR ?_
  refine al_nil ?_
  refine aseq_n ?_
  refine aw_cut (fun F H => ∃ wy wu wz wv, F = [(6, .c (legs_r vl l)), (8, .c (I ch)), (9, .c (I sp)), (12, .c (legs_r va A)), (13, .c (I E1)), (14, .c (ints_r vb Bc)), (15, .c (I E1)), (16, .c (I Nb)), (17, .c (I E3)), (18, .c (legs_r vy Ys)), (19, .c (ints_r vz Zs)), (20, .c (I E5)), (21, .c (legs_r vu Us)), (22, .c (ints_r vv Vs)), (23, .c (I E4)), (24, .c (I E1)), (25, .c (I E1)), (26, .c (legs_r wa A)), (27, .c (ints_r wb Bc)), (28, .c (I E3)), (29, .c (I Nb)), (30, .c (I E4)), (31, .c (I E5)), (32, .c (legs_r wy Ys)), (33, .c (legs_r wu Us)), (34, .c (ints_r wz Zs)), (35, .c (ints_r wv Vs))] ∧ H = []) ?_ ?_ wk_aw
  · refine aw_if rfl (fun hz => ?_) (fun hz => ?_)
    · have hc0 : cornersF l cs = 0 := by omega
      have hU2 : l.reverse = Us := by rw [hUs, if_pos hc0]
      have hV2 : cs.reverse = Vs := by rw [hVs, if_pos hc0]
      obtain ⟨r1, r2, r3, r4, r5⟩ := cornersF_ok hc0
      have hsv : splF l lg at_ = E5 := by rw [hE5, splV, if_neg (by omega)]
      refine WR ?_
      refine al_ef rfl (ef_call0 false (fun _ => (backof_a l cs vl vc (by omega) (by omega))) rfl .fn rfl (by decide) (by kernel_rfl) rfl (fun _ => C0 rfl) (by simp)) ?_
      rintro _ _ ⟨_, _, _, ⟨wu, wv, rfl, rfl⟩, hF, hH⟩
      rw [hU2, hV2] at hF
      (try simp only [nsl, Nat.reduceAdd, Nat.reduceLT, Nat.reduceSub] at hF); (try simp only [nsl, Nat.reduceAdd, Nat.reduceLT, Nat.reduceSub] at hH); subst hF; subst hH
      refine WE ?_
      refine WR ?_
      refine al_ef rfl (ef_call0 false (fun _ => (splitfault_a l vl lg at_ ⟨r1, r2⟩ r3)) rfl .fn rfl (by decide) (by kernel_rfl) rfl (fun _ => C0 rfl) (by simp)) ?_
      rintro _ _ ⟨_, _, _, ⟨rfl, rfl⟩, hF, hH⟩
      rw [hsv] at hF
      (try simp only [nsl, Nat.reduceAdd, Nat.reduceLT, Nat.reduceSub] at hF); (try simp only [nsl, Nat.reduceAdd, Nat.reduceLT, Nat.reduceSub] at hH); subst hF; subst hH
      refine WE ?_
      refine WA ?_
      refine aw_if rfl (fun hz5 => ?_) (fun hz5 => ?_)
      · have hs0 : splF l lg at_ = 0 := by omega
        have hv0 : splV l cs lg at_ = 0 := by omega
        have hin : 0 ≤ lg ∧ lg < l.length := by
          unfold splF at hs0
          split at hs0
          · omega
          · omega
        obtain ⟨i, rfl⟩ : ∃ i : Nat, lg = i := ⟨lg.toNat, by omega⟩
        obtain ⟨x, hx⟩ : ∃ x, l[i]? = some x := ⟨_, List.getElem?_eq_getElem (by omega)⟩
        have hat : 1 ≤ at_ ∧ at_ < x.long := by
          unfold splF at hs0
          rw [if_neg (by omega)] at hs0
          simp only [Int.toNat_natCast, hx] at hs0
          split at hs0
          · omega
          · omega
        have hsr : splR l cs i at_ = (splL l i x at_, splC cs i x) := by unfold splR; simp only [Int.toNat_natCast, hx]
        have hY2 : splL l i x at_ = Ys := by rw [hYs, if_pos hv0, hsr]
        have hZ2 : splC cs i x = Zs := by rw [hZs, if_pos hv0, hsr]
        refine WR ?_
        refine al_ef rfl (ef_call0 false (fun _ => (splitof_a l cs vl vc i at_ x hx r2 r4 hat (r3 x (List.mem_of_getElem? hx)))) rfl .fn rfl (by decide) (by kernel_rfl) rfl (fun _ => C0 rfl) (by simp)) ?_
        rintro _ _ ⟨_, _, _, ⟨wy, wz, rfl, rfl⟩, hF, hH⟩
        rw [hY2, hZ2] at hF
        (try simp only [nsl, Nat.reduceAdd, Nat.reduceLT, Nat.reduceSub] at hF); (try simp only [nsl, Nat.reduceAdd, Nat.reduceLT, Nat.reduceSub] at hH); subst hF; subst hH
        refine WE ?_
        exact wk_of [] (fun _ => [(6, .c (legs_r vl l)), (8, .c (I ch)), (9, .c (I sp)), (12, .c (legs_r va A)), (13, .c (I E1)), (14, .c (ints_r vb Bc)), (15, .c (I E1)), (16, .c (I Nb)), (17, .c (I E3)), (18, .c (legs_r vy Ys)), (19, .c (ints_r vz Zs)), (20, .c (I E5)), (21, .c (legs_r vu Us)), (22, .c (ints_r vv Vs)), (23, .c (I E4)), (24, .c (I E1)), (25, .c (I E1)), (26, .c (legs_r wa A)), (27, .c (ints_r wb Bc)), (28, .c (I E3)), (29, .c (I Nb)), (30, .c (I E4)), (31, .c (I E5)), (32, .c (legs_r wy Ys)), (33, .c (legs_r wu Us)), (34, .c (ints_r wz Zs)), (35, .c (ints_r wv Vs))]) (fun _ => []) (by decide) (ZNL hE) ZCF (fun _ => .nil) (fun _ => ⟨wy, wu, wz, wv, rfl, rfl⟩)
      · obtain rfl : Ys = [] := by rw [hYs, ← hE5, if_neg (by omega)]
        obtain rfl : Zs = [] := by rw [hZs, ← hE5, if_neg (by omega)]
        refine ZZ ?_
        exact wk_of [] (fun _ => [(6, .c (legs_r vl l)), (8, .c (I ch)), (9, .c (I sp)), (12, .c (legs_r va A)), (13, .c (I E1)), (14, .c (ints_r vb Bc)), (15, .c (I E1)), (16, .c (I Nb)), (17, .c (I E3)), (18, .c (legs_r vy [])), (19, .c (ints_r vz [])), (20, .c (I E5)), (21, .c (legs_r vu Us)), (22, .c (ints_r vv Vs)), (23, .c (I E4)), (24, .c (I E1)), (25, .c (I E1)), (26, .c (legs_r wa A)), (27, .c (ints_r wb Bc)), (28, .c (I E3)), (29, .c (I Nb)), (30, .c (I E4)), (31, .c (I E5)), (32, .c (legs_r (.slice none 0 0) [])), (33, .c (legs_r wu Us)), (34, .c (ints_r (.slice none 0 0) [])), (35, .c (ints_r wv Vs))]) (fun _ => []) (by decide) (ZNL hE) ZCF (fun _ => .nil) (fun _ => ⟨_, wu, _, wv, rfl, rfl⟩)
    · have hv : E5 = E4 := by rw [hE5, splV, if_pos (by omega), hE4]
      obtain rfl : Ys = [] := by rw [hYs, ← hE5, if_neg (by omega)]
      obtain rfl : Zs = [] := by rw [hZs, ← hE5, if_neg (by omega)]
      obtain rfl : Us = [] := by rw [hUs, ← hE4, if_neg (by omega)]
      obtain rfl : Vs = [] := by rw [hVs, ← hE4, if_neg (by omega)]
      rw [hv]
      refine ZZ ?_
      exact wk_of [] (fun _ => [(6, .c (legs_r vl l)), (8, .c (I ch)), (9, .c (I sp)), (12, .c (legs_r va A)), (13, .c (I E1)), (14, .c (ints_r vb Bc)), (15, .c (I E1)), (16, .c (I Nb)), (17, .c (I E3)), (18, .c (legs_r vy [])), (19, .c (ints_r vz [])), (20, .c (I E4)), (21, .c (legs_r vu [])), (22, .c (ints_r vv [])), (23, .c (I E4)), (24, .c (I E1)), (25, .c (I E1)), (26, .c (legs_r wa A)), (27, .c (ints_r wb Bc)), (28, .c (I E3)), (29, .c (I Nb)), (30, .c (I E4)), (31, .c (I E4)), (32, .c (legs_r (.slice none 0 0) [])), (33, .c (legs_r (.slice none 0 0) [])), (34, .c (ints_r (.slice none 0 0) [])), (35, .c (ints_r (.slice none 0 0) []))]) (fun _ => []) (by decide) (ZNL hE) ZCF (fun _ => .nil) (fun _ => ⟨_, _, _, _, rfl, rfl⟩)
  rintro F H ⟨wy, wu, wz, wv, rfl, rfl⟩
  have e1 : (l.map Leg.row).length = l.length := by simp
  refine WR ?_
  refine al_nil ?_
  refine aseq_n ?_
  refine aw_cut (fun F H => F = [(12, .c (legs_r va A)), (13, .c (I E1)), (14, .c (ints_r vb Bc)), (15, .c (I E1)), (16, .c (I Nb)), (17, .c (I E3)), (18, .c (legs_r vy Ys)), (19, .c (ints_r vz Zs)), (20, .c (I E5)), (21, .c (legs_r vu Us)), (22, .c (ints_r vv Vs)), (23, .c (I E4)), (24, .c (I E1)), (25, .c (I E1)), (26, .c (legs_r wa A)), (27, .c (ints_r wb Bc)), (28, .c (I E3)), (29, .c (I Nb)), (30, .c (I E4)), (31, .c (I E5)), (32, .c (legs_r wy Ys)), (33, .c (legs_r wu Us)), (34, .c (ints_r wz Zs)), (35, .c (ints_r wv Vs))] ∧ H = []) ?_ ?_ wk_aw
  · refine aw_if rfl (fun hp => ?_) (fun hp => ?_)
    · obtain ⟨x0, hx0⟩ : ∃ x, l[0]? = some x := ⟨_, List.getElem?_eq_getElem (by omega)⟩
      have hrow0 : (l.map Leg.row)[0]? = some [I x0.long, I x0.limit] := by rw [List.getElem?_map, hx0]; rfl
      have ht1 : ((l.map Leg.row).take 1).drop 0 = [x0.row] := by
        cases l with
        | nil => simp at hx0
        | cons y l => simp at hx0; subst hx0; rfl
      obtain ⟨R, hR⟩ : ∃ R, R = reachV sp x0 ch := ⟨_, rfl⟩
      have hrf := reachV_first (f := sp) (x := x0) (ch := ch)
      rw [← hR] at hrf
      obtain ⟨K, hK⟩ : ∃ K, K = (if reachV sp x0 ch = 0 then reachF sp x0 ch else 0) := ⟨_, rfl⟩
      refine ZR ?_
      iterate 2 refine WX1 ?_
      refine ZA (rd_indexq (i := 0) rfl (KE (t := 54) rfl) rfl rfl rfl hrow0 rfl) ?_
      refine WO ?_
      refine al_ef rfl (ef_call0 false (fun _ => (reached_a sp x0 ch)) rfl .fn rfl (by decide) (by kernel_rfl) rfl (fun _ => C0 rfl) (by simp)) ?_
      rintro _ _ ⟨_, _, _, ⟨rfl, rfl⟩, hF, hH⟩
      rw [← hK, ← hR] at hF
      (try simp only [nsl, Nat.reduceAdd, Nat.reduceLT, Nat.reduceSub] at hF); (try simp only [nsl, Nat.reduceAdd, Nat.reduceLT, Nat.reduceSub] at hH); subst hF; subst hH
      refine WE ?_
      rcases (by omega : sp < 0 ∨ (¬ sp < 0 ∧ x0.limit < sp) ∨ (¬ sp < 0 ∧ ¬ x0.limit < sp)) with h1 | ⟨h1, h2⟩ | ⟨h1, h2⟩
      · rw [if_pos (by omega)] at hrf
        refine ZR ?_
        refine WX1 ?_
        refine ZA (rd_slicer (l := 0) (h := 1) rfl (KE (t := 54) rfl) rfl (fun r h => (okLegs l r h).1) (.inl ⟨rfl, rfl⟩) (.inr ⟨_, _, _, rfl, rfl, rfl⟩) (by omega) (by omega)) ?_
        refine al_ef rfl (ef_call0 false (fun _ => legsfault_a [x0] (subV vl 0 1 2)) rfl .fn rfl (by decide) (by kernel_rfl) rfl (fun _ => .cons (.c (by rw [ht1]; rfl)) .nil) (by simp)) ?_
        rintro _ _ ⟨_, _, _, ⟨rfl, rfl⟩, hF, hH⟩
        (try simp only [nsl, Nat.reduceAdd, Nat.reduceLT, Nat.reduceSub] at hF); (try simp only [nsl, Nat.reduceAdd, Nat.reduceLT, Nat.reduceSub] at hH); subst hF; subst hH
        refine WO ?_
        refine al_ef rfl (ef_call0 false (fun _ => (change2_a ch)) rfl .fn rfl (by decide) (by kernel_rfl) rfl (fun _ => C0 rfl) (by simp)) ?_
        rintro _ _ ⟨_, _, _, ⟨rfl, rfl⟩, hF, hH⟩
        (try simp only [nsl, Nat.reduceAdd, Nat.reduceLT, Nat.reduceSub] at hF); (try simp only [nsl, Nat.reduceAdd, Nat.reduceLT, Nat.reduceSub] at hH); subst hF; subst hH
        refine WO ?_
        refine al_ef rfl (ef_call0 false (fun _ => (whenk_a true 1)) rfl .fn rfl (by decide) (by kernel_rfl) rfl (fun _ => C0 rfl) (by simp)) ?_
        rintro _ _ ⟨_, _, _, ⟨rfl, rfl⟩, hF, hH⟩
        (try simp only [nsl, Nat.reduceAdd, Nat.reduceLT, Nat.reduceSub] at hF); (try simp only [nsl, Nat.reduceAdd, Nat.reduceLT, Nat.reduceSub] at hH); subst hF; subst hH
        refine WO ?_
        refine al_ef rfl (ef_call0 true (fun g => errsk_a [legsF [x0], changeF ch, 1] (g (.o 0 0 3 3)) (by simp)) rfl .fn rfl (by decide) (by kernel_rfl) rfl (fun _ => .cons (.frz rfl rfl rfl rfl rfl) .nil) (fun _ _ _ _ ⟨hu, hH⟩ => by rw [hu, hH]; exact ⟨.c (.inl trivial), fun _ h => by cases h⟩)) ?_
        rintro _ _ ⟨_, _, _, ⟨rfl, rfl⟩, hF, hH⟩
        rw [hrf] at hF
        (try simp only [nsl, Nat.reduceAdd, Nat.reduceLT, Nat.reduceSub] at hF); (try simp only [nsl, Nat.reduceAdd, Nat.reduceLT, Nat.reduceSub] at hH); subst hF; subst hH
        refine WE ?_
        refine WA ?_
        by_cases hR0 : R = 0
        · obtain ⟨hx, hc, hf⟩ := reachV_ok (f := sp) (x := x0) (ch := ch) (by omega)
          exact absurd hf (by omega)
        · have hK0 : K = 0 := by rw [hK, if_neg (by omega)]
          refine WR ?_
          first | refine ZS ?_ | (refine G1 rfl ?_; refine al_ef rfl (ef_call0 false (fun _ => (reachedof_a sp x0 ch hx hc hf)) rfl .fn rfl (by decide) (by kernel_rfl) rfl (fun _ => C0 rfl) (by simp)) ?_; rintro _ _ ⟨_, _, _, ⟨rfl, rfl⟩, hF, hH⟩; (try simp only [nsl, Nat.reduceAdd, Nat.reduceLT, Nat.reduceSub] at hF); (try simp only [nsl, Nat.reduceAdd, Nat.reduceLT, Nat.reduceSub] at hH); subst hF; subst hH) | skip
          refine WE ?_
          refine aw_cond_f rfl ?_
          refine ZZ ?_
          exact wk_of [] (fun _ => [(12, .c (legs_r va A)), (13, .c (I E1)), (14, .c (ints_r vb Bc)), (15, .c (I E1)), (16, .c (I Nb)), (17, .c (I E3)), (18, .c (legs_r vy Ys)), (19, .c (ints_r vz Zs)), (20, .c (I E5)), (21, .c (legs_r vu Us)), (22, .c (ints_r vv Vs)), (23, .c (I E4)), (24, .c (I E1)), (25, .c (I E1)), (26, .c (legs_r wa A)), (27, .c (ints_r wb Bc)), (28, .c (I E3)), (29, .c (I Nb)), (30, .c (I E4)), (31, .c (I E5)), (32, .c (legs_r wy Ys)), (33, .c (legs_r wu Us)), (34, .c (ints_r wz Zs)), (35, .c (ints_r wv Vs))]) (fun _ => []) (by decide) (ZNL hE) ZCF (fun _ => .nil) (fun _ => ⟨rfl, rfl⟩)
      · rw [if_pos (by omega)] at hrf
        refine ZR ?_
        refine WX1 ?_
        refine ZA (rd_slicer (l := 0) (h := 1) rfl (KE (t := 54) rfl) rfl (fun r h => (okLegs l r h).1) (.inl ⟨rfl, rfl⟩) (.inr ⟨_, _, _, rfl, rfl, rfl⟩) (by omega) (by omega)) ?_
        refine al_ef rfl (ef_call0 false (fun _ => legsfault_a [x0] (subV vl 0 1 2)) rfl .fn rfl (by decide) (by kernel_rfl) rfl (fun _ => .cons (.c (by rw [ht1]; rfl)) .nil) (by simp)) ?_
        rintro _ _ ⟨_, _, _, ⟨rfl, rfl⟩, hF, hH⟩
        (try simp only [nsl, Nat.reduceAdd, Nat.reduceLT, Nat.reduceSub] at hF); (try simp only [nsl, Nat.reduceAdd, Nat.reduceLT, Nat.reduceSub] at hH); subst hF; subst hH
        refine WO ?_
        refine al_ef rfl (ef_call0 false (fun _ => (change2_a ch)) rfl .fn rfl (by decide) (by kernel_rfl) rfl (fun _ => C0 rfl) (by simp)) ?_
        rintro _ _ ⟨_, _, _, ⟨rfl, rfl⟩, hF, hH⟩
        (try simp only [nsl, Nat.reduceAdd, Nat.reduceLT, Nat.reduceSub] at hF); (try simp only [nsl, Nat.reduceAdd, Nat.reduceLT, Nat.reduceSub] at hH); subst hF; subst hH
        iterate 5 refine WX1 ?_
        first | refine ZP (rd_indexq (i := 0) rfl (KE (t := 54) rfl) rfl rfl rfl hrow0 rfl) ?_ | refine ZS ?_
        refine WO ?_
        refine al_ef rfl (ef_call0 false (fun _ => (whenk_a true 1)) rfl .fn rfl (by decide) (by kernel_rfl) rfl (fun _ => C0 rfl) (by simp)) ?_
        rintro _ _ ⟨_, _, _, ⟨rfl, rfl⟩, hF, hH⟩
        (try simp only [nsl, Nat.reduceAdd, Nat.reduceLT, Nat.reduceSub] at hF); (try simp only [nsl, Nat.reduceAdd, Nat.reduceLT, Nat.reduceSub] at hH); subst hF; subst hH
        refine WO ?_
        refine al_ef rfl (ef_call0 true (fun g => errsk_a [legsF [x0], changeF ch, 1] (g (.o 0 0 3 3)) (by simp)) rfl .fn rfl (by decide) (by kernel_rfl) rfl (fun _ => .cons (.frz rfl rfl rfl rfl rfl) .nil) (fun _ _ _ _ ⟨hu, hH⟩ => by rw [hu, hH]; exact ⟨.c (.inl trivial), fun _ h => by cases h⟩)) ?_
        rintro _ _ ⟨_, _, _, ⟨rfl, rfl⟩, hF, hH⟩
        rw [hrf] at hF
        (try simp only [nsl, Nat.reduceAdd, Nat.reduceLT, Nat.reduceSub] at hF); (try simp only [nsl, Nat.reduceAdd, Nat.reduceLT, Nat.reduceSub] at hH); subst hF; subst hH
        refine WE ?_
        refine WA ?_
        by_cases hR0 : R = 0
        · obtain ⟨hx, hc, hf⟩ := reachV_ok (f := sp) (x := x0) (ch := ch) (by omega)
          exact absurd hf (by omega)
        · have hK0 : K = 0 := by rw [hK, if_neg (by omega)]
          refine WR ?_
          first | refine ZS ?_ | (refine G1 rfl ?_; refine al_ef rfl (ef_call0 false (fun _ => (reachedof_a sp x0 ch hx hc hf)) rfl .fn rfl (by decide) (by kernel_rfl) rfl (fun _ => C0 rfl) (by simp)) ?_; rintro _ _ ⟨_, _, _, ⟨rfl, rfl⟩, hF, hH⟩; (try simp only [nsl, Nat.reduceAdd, Nat.reduceLT, Nat.reduceSub] at hF); (try simp only [nsl, Nat.reduceAdd, Nat.reduceLT, Nat.reduceSub] at hH); subst hF; subst hH) | skip
          refine WE ?_
          refine aw_cond_f rfl ?_
          refine ZZ ?_
          exact wk_of [] (fun _ => [(12, .c (legs_r va A)), (13, .c (I E1)), (14, .c (ints_r vb Bc)), (15, .c (I E1)), (16, .c (I Nb)), (17, .c (I E3)), (18, .c (legs_r vy Ys)), (19, .c (ints_r vz Zs)), (20, .c (I E5)), (21, .c (legs_r vu Us)), (22, .c (ints_r vv Vs)), (23, .c (I E4)), (24, .c (I E1)), (25, .c (I E1)), (26, .c (legs_r wa A)), (27, .c (ints_r wb Bc)), (28, .c (I E3)), (29, .c (I Nb)), (30, .c (I E4)), (31, .c (I E5)), (32, .c (legs_r wy Ys)), (33, .c (legs_r wu Us)), (34, .c (ints_r wz Zs)), (35, .c (ints_r wv Vs))]) (fun _ => []) (by decide) (ZNL hE) ZCF (fun _ => .nil) (fun _ => ⟨rfl, rfl⟩)
      · rw [if_neg (by omega)] at hrf
        refine ZR ?_
        refine WX1 ?_
        refine ZA (rd_slicer (l := 0) (h := 1) rfl (KE (t := 54) rfl) rfl (fun r h => (okLegs l r h).1) (.inl ⟨rfl, rfl⟩) (.inr ⟨_, _, _, rfl, rfl, rfl⟩) (by omega) (by omega)) ?_
        refine al_ef rfl (ef_call0 false (fun _ => legsfault_a [x0] (subV vl 0 1 2)) rfl .fn rfl (by decide) (by kernel_rfl) rfl (fun _ => .cons (.c (by rw [ht1]; rfl)) .nil) (by simp)) ?_
        rintro _ _ ⟨_, _, _, ⟨rfl, rfl⟩, hF, hH⟩
        (try simp only [nsl, Nat.reduceAdd, Nat.reduceLT, Nat.reduceSub] at hF); (try simp only [nsl, Nat.reduceAdd, Nat.reduceLT, Nat.reduceSub] at hH); subst hF; subst hH
        refine WO ?_
        refine al_ef rfl (ef_call0 false (fun _ => (change2_a ch)) rfl .fn rfl (by decide) (by kernel_rfl) rfl (fun _ => C0 rfl) (by simp)) ?_
        rintro _ _ ⟨_, _, _, ⟨rfl, rfl⟩, hF, hH⟩
        (try simp only [nsl, Nat.reduceAdd, Nat.reduceLT, Nat.reduceSub] at hF); (try simp only [nsl, Nat.reduceAdd, Nat.reduceLT, Nat.reduceSub] at hH); subst hF; subst hH
        iterate 5 refine WX1 ?_
        first | refine ZP (rd_indexq (i := 0) rfl (KE (t := 54) rfl) rfl rfl rfl hrow0 rfl) ?_ | refine ZS ?_
        refine WO ?_
        refine al_ef rfl (ef_call0 false (fun _ => (whenk_a false 1)) rfl .fn rfl (by decide) (by kernel_rfl) rfl (fun _ => C0 rfl) (by simp)) ?_
        rintro _ _ ⟨_, _, _, ⟨rfl, rfl⟩, hF, hH⟩
        (try simp only [nsl, Nat.reduceAdd, Nat.reduceLT, Nat.reduceSub] at hF); (try simp only [nsl, Nat.reduceAdd, Nat.reduceLT, Nat.reduceSub] at hH); subst hF; subst hH
        refine WO ?_
        refine al_ef rfl (ef_call0 true (fun g => errsk_a [legsF [x0], changeF ch, 0] (g (.o 0 0 3 3)) (by simp)) rfl .fn rfl (by decide) (by kernel_rfl) rfl (fun _ => .cons (.frz rfl rfl rfl rfl rfl) .nil) (fun _ _ _ _ ⟨hu, hH⟩ => by rw [hu, hH]; exact ⟨.c (.inl trivial), fun _ h => by cases h⟩)) ?_
        rintro _ _ ⟨_, _, _, ⟨rfl, rfl⟩, hF, hH⟩
        rw [hrf] at hF
        (try simp only [nsl, Nat.reduceAdd, Nat.reduceLT, Nat.reduceSub] at hF); (try simp only [nsl, Nat.reduceAdd, Nat.reduceLT, Nat.reduceSub] at hH); subst hF; subst hH
        refine WE ?_
        refine WA ?_
        by_cases hR0 : R = 0
        · obtain ⟨hx, hc, hf⟩ := reachV_ok (f := sp) (x := x0) (ch := ch) (by omega)
          have hK2 : reachF sp x0 ch = K := by rw [hK, if_pos (by omega)]
          refine ZR ?_
          iterate 19 refine WX1 ?_
          first | refine ZP (rd_indexq (i := 0) rfl (KE (t := 54) rfl) rfl rfl rfl hrow0 rfl) ?_ | refine ZS ?_
          refine WO ?_
          first | refine ZS ?_ | (refine G1 rfl ?_; refine al_ef rfl (ef_call0 false (fun _ => (reachedof_a sp x0 ch hx hc hf)) rfl .fn rfl (by decide) (by kernel_rfl) rfl (fun _ => C0 rfl) (by simp)) ?_; rintro _ _ ⟨_, _, _, ⟨rfl, rfl⟩, hF, hH⟩; rw [hK2] at hF; (try simp only [nsl, Nat.reduceAdd, Nat.reduceLT, Nat.reduceSub] at hF); (try simp only [nsl, Nat.reduceAdd, Nat.reduceLT, Nat.reduceSub] at hH); subst hF; subst hH) | skip
          refine WE ?_
          refine aw_cond_f rfl ?_
          refine ZZ ?_
          exact wk_of [] (fun _ => [(12, .c (legs_r va A)), (13, .c (I E1)), (14, .c (ints_r vb Bc)), (15, .c (I E1)), (16, .c (I Nb)), (17, .c (I E3)), (18, .c (legs_r vy Ys)), (19, .c (ints_r vz Zs)), (20, .c (I E5)), (21, .c (legs_r vu Us)), (22, .c (ints_r vv Vs)), (23, .c (I E4)), (24, .c (I E1)), (25, .c (I E1)), (26, .c (legs_r wa A)), (27, .c (ints_r wb Bc)), (28, .c (I E3)), (29, .c (I Nb)), (30, .c (I E4)), (31, .c (I E5)), (32, .c (legs_r wy Ys)), (33, .c (legs_r wu Us)), (34, .c (ints_r wz Zs)), (35, .c (ints_r wv Vs))]) (fun _ => []) (by decide) (ZNL hE) ZCF (fun _ => .nil) (fun _ => ⟨rfl, rfl⟩)
        · have hK0 : K = 0 := by rw [hK, if_neg (by omega)]
          refine WR ?_
          first | refine ZS ?_ | (refine G1 rfl ?_; refine al_ef rfl (ef_call0 false (fun _ => (reachedof_a sp x0 ch hx hc hf)) rfl .fn rfl (by decide) (by kernel_rfl) rfl (fun _ => C0 rfl) (by simp)) ?_; rintro _ _ ⟨_, _, _, ⟨rfl, rfl⟩, hF, hH⟩; (try simp only [nsl, Nat.reduceAdd, Nat.reduceLT, Nat.reduceSub] at hF); (try simp only [nsl, Nat.reduceAdd, Nat.reduceLT, Nat.reduceSub] at hH); subst hF; subst hH) | skip
          refine WE ?_
          refine aw_cond_f rfl ?_
          refine ZZ ?_
          exact wk_of [] (fun _ => [(12, .c (legs_r va A)), (13, .c (I E1)), (14, .c (ints_r vb Bc)), (15, .c (I E1)), (16, .c (I Nb)), (17, .c (I E3)), (18, .c (legs_r vy Ys)), (19, .c (ints_r vz Zs)), (20, .c (I E5)), (21, .c (legs_r vu Us)), (22, .c (ints_r vv Vs)), (23, .c (I E4)), (24, .c (I E1)), (25, .c (I E1)), (26, .c (legs_r wa A)), (27, .c (ints_r wb Bc)), (28, .c (I E3)), (29, .c (I Nb)), (30, .c (I E4)), (31, .c (I E5)), (32, .c (legs_r wy Ys)), (33, .c (legs_r wu Us)), (34, .c (ints_r wz Zs)), (35, .c (ints_r wv Vs))]) (fun _ => []) (by decide) (ZNL hE) ZCF (fun _ => .nil) (fun _ => ⟨rfl, rfl⟩)
    · refine ZZ ?_
      exact wk_of [] (fun _ => [(12, .c (legs_r va A)), (13, .c (I E1)), (14, .c (ints_r vb Bc)), (15, .c (I E1)), (16, .c (I Nb)), (17, .c (I E3)), (18, .c (legs_r vy Ys)), (19, .c (ints_r vz Zs)), (20, .c (I E5)), (21, .c (legs_r vu Us)), (22, .c (ints_r vv Vs)), (23, .c (I E4)), (24, .c (I E1)), (25, .c (I E1)), (26, .c (legs_r wa A)), (27, .c (ints_r wb Bc)), (28, .c (I E3)), (29, .c (I Nb)), (30, .c (I E4)), (31, .c (I E5)), (32, .c (legs_r wy Ys)), (33, .c (legs_r wu Us)), (34, .c (ints_r wz Zs)), (35, .c (ints_r wv Vs))]) (fun _ => []) (by decide) (ZNL hE) ZCF (fun _ => .nil) (fun _ => ⟨rfl, rfl⟩)
  rintro F H ⟨rfl, rfl⟩
  refine WR ?_
  first | refine ZS ?_ | (refine G1 rfl ?_; refine al_ef rfl (ef_call0 false (fun _ => eqL_a A A va wa (by omega) (by omega)) rfl .fn rfl (by decide) (by kernel_rfl) rfl (fun _ => C0 rfl) (by simp)) ?_; rintro _ _ ⟨_, _, _, ⟨bm, rfl, rfl, hbm⟩, hF, hH⟩; obtain rfl : bm = true := hbm.2 rfl; (try simp only [nsl, Nat.reduceAdd, Nat.reduceLT, Nat.reduceSub] at hF); (try simp only [nsl, Nat.reduceAdd, Nat.reduceLT, Nat.reduceSub] at hH); subst hF; subst hH) | skip
  refine WO ?_
  first | refine ZS ?_ | (refine G1 rfl ?_; refine al_ef rfl (ef_call0 false (fun _ => eqI_a Bc Bc vb wb (by omega) (by omega)) rfl .fn rfl (by decide) (by kernel_rfl) rfl (fun _ => C0 rfl) (by simp)) ?_; rintro _ _ ⟨_, _, _, ⟨bm, rfl, rfl, hbm⟩, hF, hH⟩; obtain rfl : bm = true := hbm.2 rfl; (try simp only [nsl, Nat.reduceAdd, Nat.reduceLT, Nat.reduceSub] at hF); (try simp only [nsl, Nat.reduceAdd, Nat.reduceLT, Nat.reduceSub] at hH); subst hF; subst hH) | skip
  refine WO ?_
  first | refine ZS ?_ | (refine G1 rfl ?_; refine al_ef rfl (ef_call0 false (fun _ => eqL_a Ys Ys vy wy (by omega) (by omega)) rfl .fn rfl (by decide) (by kernel_rfl) rfl (fun _ => C0 rfl) (by simp)) ?_; rintro _ _ ⟨_, _, _, ⟨bm, rfl, rfl, hbm⟩, hF, hH⟩; obtain rfl : bm = true := hbm.2 rfl; (try simp only [nsl, Nat.reduceAdd, Nat.reduceLT, Nat.reduceSub] at hF); (try simp only [nsl, Nat.reduceAdd, Nat.reduceLT, Nat.reduceSub] at hH); subst hF; subst hH) | skip
  refine WO ?_
  first | refine ZS ?_ | (refine G1 rfl ?_; refine al_ef rfl (ef_call0 false (fun _ => eqI_a Zs Zs vz wz (by omega) (by omega)) rfl .fn rfl (by decide) (by kernel_rfl) rfl (fun _ => C0 rfl) (by simp)) ?_; rintro _ _ ⟨_, _, _, ⟨bm, rfl, rfl, hbm⟩, hF, hH⟩; obtain rfl : bm = true := hbm.2 rfl; (try simp only [nsl, Nat.reduceAdd, Nat.reduceLT, Nat.reduceSub] at hF); (try simp only [nsl, Nat.reduceAdd, Nat.reduceLT, Nat.reduceSub] at hH); subst hF; subst hH) | skip
  refine WO ?_
  first | refine ZS ?_ | (refine G1 rfl ?_; refine al_ef rfl (ef_call0 false (fun _ => eqL_a Us Us vu wu (by omega) (by omega)) rfl .fn rfl (by decide) (by kernel_rfl) rfl (fun _ => C0 rfl) (by simp)) ?_; rintro _ _ ⟨_, _, _, ⟨bm, rfl, rfl, hbm⟩, hF, hH⟩; obtain rfl : bm = true := hbm.2 rfl; (try simp only [nsl, Nat.reduceAdd, Nat.reduceLT, Nat.reduceSub] at hF); (try simp only [nsl, Nat.reduceAdd, Nat.reduceLT, Nat.reduceSub] at hH); subst hF; subst hH) | skip
  refine WO ?_
  first | refine ZS ?_ | (refine G1 rfl ?_; refine al_ef rfl (ef_call0 false (fun _ => eqI_a Vs Vs vv wv (by omega) (by omega)) rfl .fn rfl (by decide) (by kernel_rfl) rfl (fun _ => C0 rfl) (by simp)) ?_; rintro _ _ ⟨_, _, _, ⟨bm, rfl, rfl, hbm⟩, hF, hH⟩; obtain rfl : bm = true := hbm.2 rfl; (try simp only [nsl, Nat.reduceAdd, Nat.reduceLT, Nat.reduceSub] at hF); (try simp only [nsl, Nat.reduceAdd, Nat.reduceLT, Nat.reduceSub] at hH); subst hF; subst hH) | skip
  refine WO ?_
  first | refine ZS ?_ | (refine G1 rfl ?_; refine al_ef rfl (ef_call0 false (fun _ => moved_a) rfl .fn rfl (by decide) (by kernel_rfl) rfl (fun _ => C0 rfl) (by simp)) ?_; rintro _ _ ⟨_, _, _, ⟨rfl, rfl⟩, hF, hH⟩; (try simp only [nsl, Nat.reduceAdd, Nat.reduceLT, Nat.reduceSub] at hF); (try simp only [nsl, Nat.reduceAdd, Nat.reduceLT, Nat.reduceSub] at hH); subst hF; subst hH) | skip
  refine WE ?_
  exact aret_1 [] _ rfl rfl rfl (by decide) (ZNK rfl) (fun _ => .nil) rfl
end Go.Proofs.Ytpbedckdnoogpaa

/- The statement PathsDriven: for every input the law returns true, and the input reads as it did. Conditions: none. -/
namespace Go.Proofs.Ytpbedckdnoogpaa
open Go Go.ChangeShapes Go.WideShapes Go.ChangeAt Go.RowKit
set_option maxRecDepth 100000
theorem pathsDriven_contract (H : Type) (enc : TypeId × Value → H) (W : World) (base : Nat) (args : Array Value) (ds gs : List (DataW H)) (before : List MemPlace)
    (hval : ∀ (j : Nat) t v, Try.f8.params[j]? = some t → args[j]? = some v → Value.okWide Try.prog W .any base t v)
    (hW : DataW.Whole enc Try.prog Try.f8.params.toList Rows.pathsDrivenSpec.vars false W args.toList ds gs before) :
    Calls Try.prog 8 args W fun e W' => ∃ v, e = .returned v ∧ Rows.pathsDrivenSpec.post enc Try.prog Try.f8 false true false false W args v W' := by
  have hW' := hW
  obtain ⟨p, q, hA0, hV, rfl, hfz, hnd⟩ := hW
  have hA : DataW.TrodAll enc Try.prog W 0 (fun _ => true) true Try.f8.params.toList args.toList ds p := hA0
  rw [Try.params8] at hA hval
  obtain ⟨v0, d0, rfl, rfl, h0⟩ := trodAll_one hA
  obtain ⟨rfl, rfl⟩ := trodVars_none hV
  obtain ⟨A, len, cap, rfl⟩ := okWide_slice Try.underlying22 (hval 0 22 v0 rfl rfl)
  obtain ⟨fuel, hf⟩ := h0
  obtain ⟨zs, hs, hg⟩ := arg_ints hf
  refine (law_paths (.slice A len cap) zs hs (fun b => b < W.heap.size) [] W (rh_none W) (fun x hx => by rw [List.mem_singleton.1 hx]; exact .c hg)).mono ?_
  rintro e W' ⟨u, H', ρ', S', rfl, rfl, -, -, hst, -⟩
  refine ⟨_, rfl, [d0], [], p ++ [], [], p, [], hW', trodAll_mk1 (shut_bool Try.underlying4 true), ?_, by exact rfl, kept_all hst, fun h => by cases h⟩
  refine trodAll_mk1 ⟨fuel, DataW.trod_stays Try.kids (fun {t e} => Try.full t e) (fun h => by cases h) (of_decide_eq_true (by kernel_rfl)) hf (fun q hq => same_all hst ?_) (fun q hq => ?_)⟩
  · exact hW'.lt q (by simpa using hq)
  · exact decide_eq_true (hW'.lt q (by simpa using hq))
set_option maxRecDepth 100000 in
theorem pathsDriven_lifted (os : Os) (started : os.Started) (H : Type) (enc : TypeId × Value → H) :
    ReturnsInHanded {} Try.checked os 8 .any (Rows.pathsDrivenSpec.pre6 enc Try.prog Try.f8 Rows.pathsDrivenRow.domain false) (Rows.pathsDrivenSpec.post enc Try.prog Try.f8 false true false false) := by
  refine returnsInHanded_of_change (C := Try.checked) Try.own started (by kernel_rfl) Try.func8
    (ChangeSpec.witness6 (enc := enc) (C := Try.checked) false ⟨#[], #[.slice none 0 0], []⟩ 8 (by kernel_rfl) (by kernel_rfl) (by kernel_rfl) (by kernel_rfl)) ?_
  intro W base args ds gs before hval hW _ _
  exact pathsDriven_contract H enc W base args ds gs before hval hW
theorem pathsDriven_holds : Rows.PathsDrivenSaid :=
  OpenClaim.holds_of_wide 8 Try.f8 rfl rfl rfl rfl rfl rfl rfl ⟨rfl, rfl, rfl, rfl, rfl⟩ rfl rfl rfl rfl rfl (by kernel_rfl) Try.func8 (by kernel_rfl)
    (of_decide_eq_true (by kernel_rfl)) (by unfold Func.isWrapper; first | (rw [if_pos (by decide +kernel)]; kernel_rfl) | (rw [if_neg (by decide +kernel)]; exact ⟨rfl, rfl⟩))
    (fun os started H enc _ => pathsDriven_lifted os started H enc)
end Go.Proofs.Ytpbedckdnoogpaa
