/- Legs that are divided, by value. -/
import Derived.Test.YtpbedckdnoogpaaGi
import Derived.Test.YtpbedckdnoogpaaPvx
set_option linter.unusedSimpArgs false
set_option linter.unusedVariables false
namespace Go.Proofs.Ytpbedckdnoogpaa
open Go Go.RowKit
set_option maxRecDepth 100000
/-- A result that is an array of the call's own, given back by content. -/
theorem acalls_frz {P : Program} {f : FuncId} {args : List AV} {e : TypeId} {sz n : Nat} {rows : List (List CV)} (h : ACalls P f args [] fun u H => ∃ c : Nat, n ≤ c ∧ u = .o 0 0 n c ∧ H = [.arr e sz c rows]) (hn : rows.length = n) : ACalls P f args [] fun u H => ∃ v, u = .c (.r v rows) ∧ H = [] := fun S ρ w h1 h2 =>
  (h S ρ w h1 h2).mono fun e' w' ⟨u, H', ρ', S', h3, ⟨c, hc, hu, hH⟩, h4, h5, h6, h7, h8, h9, h10⟩ => by
    subst hu; subst hH
    obtain ⟨k1, k2⟩ := (Cvt.frz (g := AV.den ρ' _) (m := []) rfl rfl (by rw [List.drop_zero, List.take_of_length_le (by omega)]) hn rfl).sound h5 rfl (CvH.nil) h4
    refine ⟨_, [], reB ρ' [], _, h3.trans (congrArg Ending.returned k1.symm), ⟨_, rfl, rfl⟩, k2, h5.re rfl (by simp) (CvH.nil (g := AV.den ρ' _) (fz := true)), h6, fun b hb => ?_, fun i B hi => by rw [atB_reB] at hi; simp at hi, fun i hi => absurd hi (Nat.not_lt_zero _), fun h => by cases h⟩
    rcases hb with hb | ⟨_, b2, e, sz, cap, rows, g3, g4, g5⟩
    · exact h7 b hb
    · rcases h8 b2 b g3 with g6 | ⟨g6, _⟩
      · exact .inr g6
      · exact absurd g6 (Nat.not_lt_zero _)
def splF (l : List Leg) (leg at_ : Int) : Int := if leg < 0 ∨ (l.length : Int) ≤ leg then 8 else match l[leg.toNat]? with
  | some x => if at_ < 1 ∨ x.long ≤ at_ then 1 else if 2000 ≤ l.length then 2 else 0
  | none => 0
def splL (l : List Leg) (i : Nat) (x : Leg) (at_ : Int) : List Leg := l.take i ++ (⟨at_, x.limit⟩ :: ⟨x.long - at_, x.limit⟩ :: l.drop (i + 1))
def splC (cs : List Int) (i : Nat) (x : Leg) : List Int := cs.take i ++ (x.limit :: cs.drop i)
/-- What Split gives of right arguments. -/
def splR (l : List Leg) (cs : List Int) (leg at_ : Int) : List Leg × List Int := match l[leg.toNat]? with
  | some x => (splL l leg.toNat x at_, splC cs leg.toNat x)
  | none => ([], [])
theorem splitfault_a (l : List Leg) (v : Value) (leg at_ : Int) (hc : 1 ≤ l.length ∧ l.length ≤ 2000) (hg : ∀ x ∈ l, x.good) : ACalls Try.prog 82 [.c (legs_r v l), .c (I leg), .c (I at_)] [] fun u H => u = .c (I (splF l leg at_)) ∧ H = [] := by
  have e1 : ((l.map Leg.row).length : Int) = l.length := by simp
  refine acalls_of (N := 28) Try.func82 rfl rfl (by simp) fun E hE => ?_
  by_cases hl : 0 ≤ leg ∧ leg ≤ (l.length : Int) - 1
  · obtain ⟨i, rfl⟩ : ∃ i : Nat, leg = i := ⟨leg.toNat, by omega⟩
    obtain ⟨x, hx⟩ : ∃ x, l[i]? = some x := ⟨_, List.getElem?_eq_getElem (by omega)⟩
    have hrow : (l.map Leg.row)[i]? = some [I x.long, I x.limit] := by rw [List.getElem?_map, hx]; rfl
    have hxg := hg x (List.mem_of_getElem? hx)
    obtain ⟨g1, g2, g3, g4⟩ := hxg
    have hsp : splF l i at_ = if at_ < 1 ∨ x.long ≤ at_ then 1 else if 2000 ≤ l.length then 2 else 0 := by
      unfold splF; rw [if_neg (by omega)]; simp only [Int.toNat_natCast, hx]
    refine WA ?_
    refine WR ?_
    refine al_ef rfl (ef_call0 false (fun _ => in2_a i 0 ((l.length : Int) - 1)) rfl .fn rfl (by decide) (by kernel_rfl) rfl (fun _ => .cons (.c rfl) (.cons (.c rfl) (.cons (.c (by rw [e1])) .nil))) (by simp)) ?_
    rintro _ _ ⟨_, _, _, ⟨bb, rfl, rfl, ⟨rfl, hb⟩ | ⟨rfl, hb⟩⟩, hF, hH⟩
    rotate_left
    exact absurd hl (by omega)
    (try simp only [nsl, Nat.reduceAdd, Nat.reduceLT, Nat.reduceSub] at hF); (try simp only [nsl, Nat.reduceAdd, Nat.reduceLT, Nat.reduceSub] at hH); subst hF; subst hH
    refine WE ?_
    refine aw_cond_f rfl ?_
    refine ZZ ?_
    refine WR ?_
    refine al_ef rfl (ef_call0 false (fun _ => span_a at_ 1 (x.long - 1)) rfl .fn rfl (by decide) (by kernel_rfl) rfl (fun _ => C0 rfl) (by simp)) ?_
    rintro _ _ ⟨_, _, _, ⟨rfl, rfl⟩, hF, hH⟩
    (try simp only [nsl, Nat.reduceAdd, Nat.reduceLT, Nat.reduceSub] at hF); (try simp only [nsl, Nat.reduceAdd, Nat.reduceLT, Nat.reduceSub] at hH); subst hF; subst hH
    refine WE ?_
    refine WA ?_
    refine aw_if rfl (fun h1 => ?_) (fun h1 => ?_)
    · have hs : spanF at_ 1 (x.long - 1) = 1 := by unfold spanF at *; split <;> simp_all
      have ha : at_ < 1 ∨ x.long ≤ at_ := by unfold spanF at h1; split at h1 <;> omega
      refine WA ?_
      exact aret_1 [] _ rfl rfl rfl (by decide) (ZNK rfl) (fun _ => .nil) ⟨by rw [hsp, if_pos ha, hs], rfl⟩
    · have ha : ¬ (at_ < 1 ∨ x.long ≤ at_) := by unfold spanF at h1; split at h1 <;> omega
      refine ZZ ?_
      refine WA ?_
      refine aw_if rfl (fun h2 => ?_) (fun h2 => ?_)
      · refine WA ?_
        exact aret_1 [] _ rfl rfl rfl (by decide) (ZNK rfl) (fun _ => .nil) ⟨by rw [hsp, if_neg ha, if_pos (by omega)], rfl⟩
      · refine ZZ ?_
        refine WA ?_
        exact aret_1 [] _ rfl rfl rfl (by decide) (ZNK rfl) (fun _ => .nil) ⟨by rw [hsp, if_neg ha, if_neg (by omega)], rfl⟩
  · refine WA ?_
    refine WR ?_
    refine al_ef rfl (ef_call0 false (fun _ => in2_a leg 0 ((l.length : Int) - 1)) rfl .fn rfl (by decide) (by kernel_rfl) rfl (fun _ => .cons (.c rfl) (.cons (.c rfl) (.cons (.c (by rw [e1])) .nil))) (by simp)) ?_
    rintro _ _ ⟨_, _, _, ⟨bb, rfl, rfl, ⟨rfl, hb⟩ | ⟨rfl, hb⟩⟩, hF, hH⟩
    exact absurd hb hl
    (try simp only [nsl, Nat.reduceAdd, Nat.reduceLT, Nat.reduceSub] at hF); (try simp only [nsl, Nat.reduceAdd, Nat.reduceLT, Nat.reduceSub] at hH); subst hF; subst hH
    refine WE ?_
    refine aw_cond_t rfl ?_
    refine WA ?_
    exact aret_1 [] _ rfl rfl rfl (by decide) (ZNK rfl) (fun _ => .nil) ⟨by rw [splF, if_pos (by omega)], rfl⟩
set_option maxHeartbeats 4000000 in
theorem splitof_a (l : List Leg) (cs : List Int) (v w : Value) (i : Nat) (at_ : Int) (x : Leg) (hx : l[i]? = some x) (hl : l.length ≤ 2000) (hcl : cs.length + 1 = l.length) (ha : 1 ≤ at_ ∧ at_ < x.long) (hg : x.good) : ACalls Try.prog 83 [.c (legs_r v l), .c (ints_r w cs), .c (I i), .c (I at_)] [] fun u H =>
    ∃ v' w', u = .t [.c (legs_r v' (splL l i x at_)), .c (ints_r w' (splC cs i x))] ∧ H = [] := by
  have hil : i < l.length := (List.getElem?_eq_some_iff.1 hx).1
  have e1 : (l.map Leg.row).length = l.length := by simp
  have e2 : (cs.map fun z => [I z]).length = cs.length := by simp
  have hrow : (l.map Leg.row)[i]? = some [I x.long, I x.limit] := by rw [List.getElem?_map, hx]; rfl
  have hrL : ∀ row ∈ l.map Leg.row, row.length = 2 := fun r h => (okLegs l r h).1
  have hrI : ∀ row ∈ cs.map (fun z => [I z]), row.length = 1 := fun r h => (okInts cs r h).1
  obtain ⟨g1, g2, g3, g4⟩ := hg
  have okab : OkR 2 [[I at_, I x.limit], [I (x.long - at_), I x.limit]] := okLegs [⟨at_, x.limit⟩, ⟨x.long - at_, x.limit⟩]
  have okb : OkR 1 [[I x.limit]] := okInts [x.limit]
  have hokL : ∀ {va : Value}, ∀ p ∈ [(subV v 0 i 2, ((l.map Leg.row).take i).drop 0), (va, [[I at_, I x.limit], [I (x.long - at_), I x.limit]]), (subV v (i + 1) (l.map Leg.row).length 2, ((l.map Leg.row).take (l.map Leg.row).length).drop (i + 1))], OkR 2 p.2 := fun {va} p hp => by
    simp only [List.mem_cons, List.not_mem_nil, or_false] at hp
    rcases hp with rfl | rfl | rfl
    · exact fun r hr => okLegs l r (List.mem_of_mem_take hr)
    · exact okab
    · exact fun r hr => okLegs l r (List.mem_of_mem_take (List.mem_of_mem_drop hr))
  have hokI : ∀ {vb : Value}, ∀ p ∈ [(subV w 0 i 1, ((cs.map fun z => [I z]).take i).drop 0), (vb, [[I x.limit]]), (subV w i (cs.map fun z => [I z]).length 1, ((cs.map fun z => [I z]).take (cs.map fun z => [I z]).length).drop i)], OkR 1 p.2 := fun {vb} p hp => by
    simp only [List.mem_cons, List.not_mem_nil, or_false] at hp
    rcases hp with rfl | rfl | rfl
    · exact fun r hr => okInts cs r (List.mem_of_mem_take hr)
    · exact okb
    · exact fun r hr => okInts cs r (List.mem_of_mem_take (List.mem_of_mem_drop hr))
  have hcatL : ∀ va : Value, catR [(subV v 0 i 2, ((l.map Leg.row).take i).drop 0), (va, [[I at_, I x.limit], [I (x.long - at_), I x.limit]]), (subV v (i + 1) (l.map Leg.row).length 2, ((l.map Leg.row).take (l.map Leg.row).length).drop (i + 1))] = (splL l i x at_).map Leg.row := fun va => by
    rw [List.take_of_length_le (l := l.map Leg.row) (Nat.le_refl _)]
    simp [catR, splL, List.map_append, List.map_take, List.map_drop]
  have hcatI : ∀ vb : Value, catR [(subV w 0 i 1, ((cs.map fun z => [I z]).take i).drop 0), (vb, [[I x.limit]]), (subV w i (cs.map fun z => [I z]).length 1, ((cs.map fun z => [I z]).take (cs.map fun z => [I z]).length).drop i)] = (splC cs i x).map fun z => [I z] := fun vb => by
    rw [List.take_of_length_le (l := cs.map fun z => [I z]) (Nat.le_refl _)]
    simp [catR, splC, List.map_append, List.map_take, List.map_drop]
  have hlnL : ∀ {va : Value}, (catR [(subV v 0 i 2, ((l.map Leg.row).take i).drop 0), (va, [[I at_, I x.limit], [I (x.long - at_), I x.limit]]), (subV v (i + 1) (l.map Leg.row).length 2, ((l.map Leg.row).take (l.map Leg.row).length).drop (i + 1))]).length ≤ 1000000 := fun {va} => by
    rw [hcatL]; simp [splL]; omega
  have hlnI : ∀ {vb : Value}, (catR [(subV w 0 i 1, ((cs.map fun z => [I z]).take i).drop 0), (vb, [[I x.limit]]), (subV w i (cs.map fun z => [I z]).length 1, ((cs.map fun z => [I z]).take (cs.map fun z => [I z]).length).drop i)]).length ≤ 1000000 := fun {vb} => by
    rw [hcatI]; simp [splC]; omega
  refine acalls_of (N := 51) Try.func83 rfl rfl (by simp) fun E hE => ?_
  refine WA ?_
  refine WA ?_
  refine aw_cut (fun F H => F = [(0, .c (legs_r v l)), (1, .c (ints_r w cs)), (2, .c (I i)), (10, .p 0 0 0), (11, .p 1 0 0), (12, .p 2 0 0)] ∧ H = [.box (x.row.map .c), .box [.c (I at_), .c (I x.limit)], .box [.c (I (x.long - at_)), .c (I x.limit)]]) ?_ ?_ wk_aw
  · refine ZZ ?_
    refine aw_regionM [[(0, none), (1, none), (2, none), (3, none), (4, none), (5, none), (6, none), (7, none), (8, none), (9, none), (10, none), (11, some [0, 1, 2, 3, 4, 5, 6, 7, 8, 9, 10]), (12, some [0, 1, 2, 3, 4, 5, 6, 7, 8, 9, 10]), (13, some [4, 5, 6, 7, 8, 9, 10]), (14, some [])], [(0, none), (1, none), (2, none), (3, none), (4, none), (5, none), (6, none), (7, none), (8, none), (9, none), (10, none), (12, some [0, 1, 2, 3, 4, 5, 6, 7, 8, 9, 10]), (11, some [0, 1, 2, 3, 4, 5, 6, 7, 8, 9, 10]), (13, some [4, 5, 6, 7, 8, 9, 10]), (14, some [])]] hMixed (by kernel_rfl) ?_
    focus
      refine WM ?_
      refine am_two (by rfl) (by rfl) (by rfl) ?_ ?_
      rotate_left
      refine WN ?_
      rotate_right
      refine WN ?_
    all_goals first
      | exact wk_of [some 0, some 1, some 2] (fun _ => [(0, .c (legs_r v l)), (1, .c (ints_r w cs)), (2, .c (I i)), (10, .p 0 0 0), (11, .p 1 0 0), (12, .p 2 0 0)]) (fun _ => [.box (x.row.map .c), .box [.c (I at_), .c (I x.limit)], .box [.c (I (x.long - at_)), .c (I x.limit)]]) (by decide) (ZNL hE) ZCF ZCH (fun _ => ⟨rfl, rfl⟩)
      | exact wk_of [some 0, some 2, some 1] (fun _ => [(0, .c (legs_r v l)), (1, .c (ints_r w cs)), (2, .c (I i)), (10, .p 0 0 0), (11, .p 1 0 0), (12, .p 2 0 0)]) (fun _ => [.box (x.row.map .c), .box [.c (I at_), .c (I x.limit)], .box [.c (I (x.long - at_)), .c (I x.limit)]]) (by decide) (ZNL hE) ZCF ZCH (fun _ => ⟨rfl, rfl⟩)
  rintro F H ⟨rfl, rfl⟩
  refine ZZ ?_
  refine aw_regionM [[(0, none), (1, none), (2, none), (3, none), (4, none), (6, none), (7, none), (8, none), (9, none), (12, none), (13, none), (14, none), (15, none), (16, none), (18, none), (19, none), (20, none), (5, some [0, 1, 2, 6, 7, 8, 9, 12, 13, 14, 15, 16, 18, 19, 20]), (10, some [12, 13, 14, 15, 16, 18, 19, 20]), (11, some [12, 13, 14, 15, 16, 18, 19, 20]), (17, some [0, 1, 2, 3, 4, 6, 7, 8, 9, 12, 13, 14, 18, 19, 20]), (21, some [0, 1, 2, 3, 4, 6, 7, 8, 9]), (22, some []), (23, none), (24, none)], [(0, none), (1, none), (2, none), (3, none), (4, none), (6, none), (7, none), (8, none), (9, none), (12, none), (13, none), (14, none), (15, none), (16, none), (18, none), (19, none), (20, none), (5, some [0, 1, 2, 6, 7, 8, 9, 12, 13, 14, 15, 16, 18, 19, 20]), (10, some [12, 13, 14, 15, 16, 18, 19, 20]), (17, some [0, 1, 2, 3, 4, 6, 7, 8, 9, 12, 13, 14, 18, 19, 20]), (11, some [12, 13, 14, 15, 16, 18, 19, 20]), (21, some [0, 1, 2, 3, 4, 6, 7, 8, 9]), (22, some []), (23, none), (24, none)], [(0, none), (1, none), (2, none), (3, none), (4, none), (6, none), (7, none), (8, none), (9, none), (12, none), (13, none), (14, none), (15, none), (16, none), (18, none), (19, none), (20, none), (5, some [0, 1, 2, 6, 7, 8, 9, 12, 13, 14, 15, 16, 18, 19, 20]), (10, some [12, 13, 14, 15, 16, 18, 19, 20]), (17, some [0, 1, 2, 3, 4, 6, 7, 8, 9, 12, 13, 14, 18, 19, 20]), (21, some [0, 1, 2, 3, 4, 6, 7, 8, 9]), (11, some [12, 13, 14, 15, 16, 18, 19, 20]), (22, some []), (23, none), (24, none)], [(0, none), (1, none), (2, none), (3, none), (4, none), (6, none), (7, none), (8, none), (9, none), (12, none), (13, none), (14, none), (15, none), (16, none), (18, none), (19, none), (20, none), (5, some [0, 1, 2, 6, 7, 8, 9, 12, 13, 14, 15, 16, 18, 19, 20]), (17, some [0, 1, 2, 3, 4, 6, 7, 8, 9, 12, 13, 14, 18, 19, 20]), (10, some [12, 13, 14, 15, 16, 18, 19, 20]), (11, some [12, 13, 14, 15, 16, 18, 19, 20]), (21, some [0, 1, 2, 3, 4, 6, 7, 8, 9]), (22, some []), (23, none), (24, none)], [(0, none), (1, none), (2, none), (3, none), (4, none), (6, none), (7, none), (8, none), (9, none), (12, none), (13, none), (14, none), (15, none), (16, none), (18, none), (19, none), (20, none), (5, some [0, 1, 2, 6, 7, 8, 9, 12, 13, 14, 15, 16, 18, 19, 20]), (17, some [0, 1, 2, 3, 4, 6, 7, 8, 9, 12, 13, 14, 18, 19, 20]), (10, some [12, 13, 14, 15, 16, 18, 19, 20]), (21, some [0, 1, 2, 3, 4, 6, 7, 8, 9]), (11, some [12, 13, 14, 15, 16, 18, 19, 20]), (22, some []), (23, none), (24, none)], [(0, none), (1, none), (2, none), (3, none), (4, none), (6, none), (7, none), (8, none), (9, none), (12, none), (13, none), (14, none), (15, none), (16, none), (18, none), (19, none), (20, none), (5, some [0, 1, 2, 6, 7, 8, 9, 12, 13, 14, 15, 16, 18, 19, 20]), (17, some [0, 1, 2, 3, 4, 6, 7, 8, 9, 12, 13, 14, 18, 19, 20]), (21, some [0, 1, 2, 3, 4, 6, 7, 8, 9]), (10, some [12, 13, 14, 15, 16, 18, 19, 20]), (11, some [12, 13, 14, 15, 16, 18, 19, 20]), (22, some []), (23, none), (24, none)], [(0, none), (1, none), (2, none), (3, none), (4, none), (6, none), (7, none), (8, none), (9, none), (12, none), (13, none), (14, none), (15, none), (16, none), (18, none), (19, none), (20, none), (17, some [0, 1, 2, 3, 4, 6, 7, 8, 9, 12, 13, 14, 18, 19, 20]), (5, some [0, 1, 2, 6, 7, 8, 9, 12, 13, 14, 15, 16, 18, 19, 20]), (10, some [12, 13, 14, 15, 16, 18, 19, 20]), (11, some [12, 13, 14, 15, 16, 18, 19, 20]), (21, some [0, 1, 2, 3, 4, 6, 7, 8, 9]), (22, some []), (23, none), (24, none)], [(0, none), (1, none), (2, none), (3, none), (4, none), (6, none), (7, none), (8, none), (9, none), (12, none), (13, none), (14, none), (15, none), (16, none), (18, none), (19, none), (20, none), (17, some [0, 1, 2, 3, 4, 6, 7, 8, 9, 12, 13, 14, 18, 19, 20]), (5, some [0, 1, 2, 6, 7, 8, 9, 12, 13, 14, 15, 16, 18, 19, 20]), (10, some [12, 13, 14, 15, 16, 18, 19, 20]), (21, some [0, 1, 2, 3, 4, 6, 7, 8, 9]), (11, some [12, 13, 14, 15, 16, 18, 19, 20]), (22, some []), (23, none), (24, none)], [(0, none), (1, none), (2, none), (3, none), (4, none), (6, none), (7, none), (8, none), (9, none), (12, none), (13, none), (14, none), (15, none), (16, none), (18, none), (19, none), (20, none), (17, some [0, 1, 2, 3, 4, 6, 7, 8, 9, 12, 13, 14, 18, 19, 20]), (5, some [0, 1, 2, 6, 7, 8, 9, 12, 13, 14, 15, 16, 18, 19, 20]), (21, some [0, 1, 2, 3, 4, 6, 7, 8, 9]), (10, some [12, 13, 14, 15, 16, 18, 19, 20]), (11, some [12, 13, 14, 15, 16, 18, 19, 20]), (22, some []), (23, none), (24, none)], [(0, none), (1, none), (2, none), (3, none), (4, none), (6, none), (7, none), (8, none), (9, none), (12, none), (13, none), (14, none), (15, none), (16, none), (18, none), (19, none), (20, none), (17, some [0, 1, 2, 3, 4, 6, 7, 8, 9, 12, 13, 14, 18, 19, 20]), (21, some [0, 1, 2, 3, 4, 6, 7, 8, 9]), (5, some [0, 1, 2, 6, 7, 8, 9, 12, 13, 14, 15, 16, 18, 19, 20]), (10, some [12, 13, 14, 15, 16, 18, 19, 20]), (11, some [12, 13, 14, 15, 16, 18, 19, 20]), (22, some []), (23, none), (24, none)]] hMixed (by kernel_rfl) ?_
  focus
    iterate 7 refine WX3 ?_
    refine ZM (i := 8) (by rfl) (by rfl) rfl (rd_addz (z := ((i + 1 : Nat) : Int)) rfl rfl rfl (by omega) (by omega)) ?_
    refine WM ?_
    refine am_two (by rfl) (by rfl) (by rfl) ?_ ?_
    rotate_left
    refine am_ef (i := 17) (by rfl) (by rfl) rfl rfl Ybsr ?_
    rintro _ _ ⟨vb, rfl, rfl⟩
    refine ⟨AGX, ?_⟩
    refine am_two (by rfl) (by rfl) (by rfl) ?_ ?_
    rotate_left
    refine am_ef (i := 21) (by rfl) (by rfl) rfl rfl Ybsr ?_
    rintro _ _ ⟨v2, rfl, rfl⟩
    refine ⟨AGX, ?_⟩
    refine am_ef (i := 5) (by rfl) (by rfl) rfl rfl Ybsr ?_
    rintro _ _ ⟨va, rfl, rfl⟩
    refine ⟨AGX, ?_⟩
    refine am_ef (i := 10) (by rfl) (by rfl) rfl rfl Ybsr ?_
    rintro _ _ ⟨v1, rfl, rfl⟩
    refine ⟨AGX, ?_⟩
    refine am_ef (i := 11) (by rfl) (by rfl) rfl rfl (ef_call0 false (fun _ => acalls_frz (concatL_a [(subV v 0 i 2, ((l.map Leg.row).take i).drop 0), (va, [[I at_, I x.limit], [I (x.long - at_), I x.limit]]), (subV v (i + 1) (l.map Leg.row).length 2, ((l.map Leg.row).take (l.map Leg.row).length).drop (i + 1))] v1 hokL (by simp) (by simp) hlnL) rfl) rfl .fn rfl (by decide) (by kernel_rfl) rfl (fun _ => C0 rfl) (by simp)) ?_
    rintro _ _ ⟨_, _, _, ⟨vL, rfl, rfl⟩, hF, hH⟩
    (try simp only [nsl, Nat.reduceAdd, Nat.reduceLT, Nat.reduceSub] at hF); (try simp only [nsl, Nat.reduceAdd, Nat.reduceLT, Nat.reduceSub] at hH); subst hF; subst hH
    refine ⟨AGX, ?_⟩
    refine am_ef (i := 22) (by rfl) (by rfl) rfl rfl (ef_call0 false (fun _ => acalls_frz (concatI_a [(subV w 0 i 1, ((cs.map fun z => [I z]).take i).drop 0), (vb, [[I x.limit]]), (subV w i (cs.map fun z => [I z]).length 1, ((cs.map fun z => [I z]).take (cs.map fun z => [I z]).length).drop i)] v2 hokI (by simp) (by simp) hlnI) rfl) rfl .fn rfl (by decide) (by kernel_rfl) rfl (fun _ => C0 rfl) (by simp)) ?_
    rintro _ _ ⟨_, _, _, ⟨vI, rfl, rfl⟩, hF, hH⟩
    (try simp only [nsl, Nat.reduceAdd, Nat.reduceLT, Nat.reduceSub] at hF); (try simp only [nsl, Nat.reduceAdd, Nat.reduceLT, Nat.reduceSub] at hH); subst hF; subst hH
    refine ⟨AGX, ?_⟩
    refine WN ?_
    rotate_right
    refine am_ef (i := 5) (by rfl) (by rfl) rfl rfl Ybsr ?_
    rintro _ _ ⟨va, rfl, rfl⟩
    refine ⟨AGX, ?_⟩
    refine am_two (by rfl) (by rfl) (by rfl) ?_ ?_
    rotate_left
    refine am_ef (i := 21) (by rfl) (by rfl) rfl rfl Ybsr ?_
    rintro _ _ ⟨v2, rfl, rfl⟩
    refine ⟨AGX, ?_⟩
    refine am_ef (i := 10) (by rfl) (by rfl) rfl rfl Ybsr ?_
    rintro _ _ ⟨v1, rfl, rfl⟩
    refine ⟨AGX, ?_⟩
    refine am_ef (i := 11) (by rfl) (by rfl) rfl rfl (ef_call0 false (fun _ => acalls_frz (concatL_a [(subV v 0 i 2, ((l.map Leg.row).take i).drop 0), (va, [[I at_, I x.limit], [I (x.long - at_), I x.limit]]), (subV v (i + 1) (l.map Leg.row).length 2, ((l.map Leg.row).take (l.map Leg.row).length).drop (i + 1))] v1 hokL (by simp) (by simp) hlnL) rfl) rfl .fn rfl (by decide) (by kernel_rfl) rfl (fun _ => C0 rfl) (by simp)) ?_
    rintro _ _ ⟨_, _, _, ⟨vL, rfl, rfl⟩, hF, hH⟩
    (try simp only [nsl, Nat.reduceAdd, Nat.reduceLT, Nat.reduceSub] at hF); (try simp only [nsl, Nat.reduceAdd, Nat.reduceLT, Nat.reduceSub] at hH); subst hF; subst hH
    refine ⟨AGX, ?_⟩
    refine am_ef (i := 22) (by rfl) (by rfl) rfl rfl (ef_call0 false (fun _ => acalls_frz (concatI_a [(subV w 0 i 1, ((cs.map fun z => [I z]).take i).drop 0), (vb, [[I x.limit]]), (subV w i (cs.map fun z => [I z]).length 1, ((cs.map fun z => [I z]).take (cs.map fun z => [I z]).length).drop i)] v2 hokI (by simp) (by simp) hlnI) rfl) rfl .fn rfl (by decide) (by kernel_rfl) rfl (fun _ => C0 rfl) (by simp)) ?_
    rintro _ _ ⟨_, _, _, ⟨vI, rfl, rfl⟩, hF, hH⟩
    (try simp only [nsl, Nat.reduceAdd, Nat.reduceLT, Nat.reduceSub] at hF); (try simp only [nsl, Nat.reduceAdd, Nat.reduceLT, Nat.reduceSub] at hH); subst hF; subst hH
    refine ⟨AGX, ?_⟩
    refine WN ?_
    rotate_right
    refine am_ef (i := 10) (by rfl) (by rfl) rfl rfl Ybsr ?_
    rintro _ _ ⟨v1, rfl, rfl⟩
    refine ⟨AGX, ?_⟩
    refine am_two (by rfl) (by rfl) (by rfl) ?_ ?_
    rotate_left
    refine am_ef (i := 21) (by rfl) (by rfl) rfl rfl Ybsr ?_
    rintro _ _ ⟨v2, rfl, rfl⟩
    refine ⟨AGX, ?_⟩
    refine am_ef (i := 11) (by rfl) (by rfl) rfl rfl (ef_call0 false (fun _ => acalls_frz (concatL_a [(subV v 0 i 2, ((l.map Leg.row).take i).drop 0), (va, [[I at_, I x.limit], [I (x.long - at_), I x.limit]]), (subV v (i + 1) (l.map Leg.row).length 2, ((l.map Leg.row).take (l.map Leg.row).length).drop (i + 1))] v1 hokL (by simp) (by simp) hlnL) rfl) rfl .fn rfl (by decide) (by kernel_rfl) rfl (fun _ => C0 rfl) (by simp)) ?_
    rintro _ _ ⟨_, _, _, ⟨vL, rfl, rfl⟩, hF, hH⟩
    (try simp only [nsl, Nat.reduceAdd, Nat.reduceLT, Nat.reduceSub] at hF); (try simp only [nsl, Nat.reduceAdd, Nat.reduceLT, Nat.reduceSub] at hH); subst hF; subst hH
    refine ⟨AGX, ?_⟩
    refine am_ef (i := 22) (by rfl) (by rfl) rfl rfl (ef_call0 false (fun _ => acalls_frz (concatI_a [(subV w 0 i 1, ((cs.map fun z => [I z]).take i).drop 0), (vb, [[I x.limit]]), (subV w i (cs.map fun z => [I z]).length 1, ((cs.map fun z => [I z]).take (cs.map fun z => [I z]).length).drop i)] v2 hokI (by simp) (by simp) hlnI) rfl) rfl .fn rfl (by decide) (by kernel_rfl) rfl (fun _ => C0 rfl) (by simp)) ?_
    rintro _ _ ⟨_, _, _, ⟨vI, rfl, rfl⟩, hF, hH⟩
    (try simp only [nsl, Nat.reduceAdd, Nat.reduceLT, Nat.reduceSub] at hF); (try simp only [nsl, Nat.reduceAdd, Nat.reduceLT, Nat.reduceSub] at hH); subst hF; subst hH
    refine ⟨AGX, ?_⟩
    refine WN ?_
    rotate_right
    refine am_ef (i := 11) (by rfl) (by rfl) rfl rfl (ef_call0 false (fun _ => acalls_frz (concatL_a [(subV v 0 i 2, ((l.map Leg.row).take i).drop 0), (va, [[I at_, I x.limit], [I (x.long - at_), I x.limit]]), (subV v (i + 1) (l.map Leg.row).length 2, ((l.map Leg.row).take (l.map Leg.row).length).drop (i + 1))] v1 hokL (by simp) (by simp) hlnL) rfl) rfl .fn rfl (by decide) (by kernel_rfl) rfl (fun _ => C0 rfl) (by simp)) ?_
    rintro _ _ ⟨_, _, _, ⟨vL, rfl, rfl⟩, hF, hH⟩
    (try simp only [nsl, Nat.reduceAdd, Nat.reduceLT, Nat.reduceSub] at hF); (try simp only [nsl, Nat.reduceAdd, Nat.reduceLT, Nat.reduceSub] at hH); subst hF; subst hH
    refine ⟨AGX, ?_⟩
    refine am_ef (i := 21) (by rfl) (by rfl) rfl rfl Ybsr ?_
    rintro _ _ ⟨v2, rfl, rfl⟩
    refine ⟨AGX, ?_⟩
    refine am_ef (i := 22) (by rfl) (by rfl) rfl rfl (ef_call0 false (fun _ => acalls_frz (concatI_a [(subV w 0 i 1, ((cs.map fun z => [I z]).take i).drop 0), (vb, [[I x.limit]]), (subV w i (cs.map fun z => [I z]).length 1, ((cs.map fun z => [I z]).take (cs.map fun z => [I z]).length).drop i)] v2 hokI (by simp) (by simp) hlnI) rfl) rfl .fn rfl (by decide) (by kernel_rfl) rfl (fun _ => C0 rfl) (by simp)) ?_
    rintro _ _ ⟨_, _, _, ⟨vI, rfl, rfl⟩, hF, hH⟩
    (try simp only [nsl, Nat.reduceAdd, Nat.reduceLT, Nat.reduceSub] at hF); (try simp only [nsl, Nat.reduceAdd, Nat.reduceLT, Nat.reduceSub] at hH); subst hF; subst hH
    refine ⟨AGX, ?_⟩
    refine WN ?_
    rotate_right
    refine am_ef (i := 5) (by rfl) (by rfl) rfl rfl Ybsr ?_
    rintro _ _ ⟨va, rfl, rfl⟩
    refine ⟨AGX, ?_⟩
    refine am_two (by rfl) (by rfl) (by rfl) ?_ ?_
    rotate_left
    refine am_ef (i := 17) (by rfl) (by rfl) rfl rfl Ybsr ?_
    rintro _ _ ⟨vb, rfl, rfl⟩
    refine ⟨AGX, ?_⟩
    refine am_two (by rfl) (by rfl) (by rfl) ?_ ?_
    rotate_left
    refine am_ef (i := 21) (by rfl) (by rfl) rfl rfl Ybsr ?_
    rintro _ _ ⟨v2, rfl, rfl⟩
    refine ⟨AGX, ?_⟩
    refine am_ef (i := 10) (by rfl) (by rfl) rfl rfl Ybsr ?_
    rintro _ _ ⟨v1, rfl, rfl⟩
    refine ⟨AGX, ?_⟩
    refine am_ef (i := 11) (by rfl) (by rfl) rfl rfl (ef_call0 false (fun _ => acalls_frz (concatL_a [(subV v 0 i 2, ((l.map Leg.row).take i).drop 0), (va, [[I at_, I x.limit], [I (x.long - at_), I x.limit]]), (subV v (i + 1) (l.map Leg.row).length 2, ((l.map Leg.row).take (l.map Leg.row).length).drop (i + 1))] v1 hokL (by simp) (by simp) hlnL) rfl) rfl .fn rfl (by decide) (by kernel_rfl) rfl (fun _ => C0 rfl) (by simp)) ?_
    rintro _ _ ⟨_, _, _, ⟨vL, rfl, rfl⟩, hF, hH⟩
    (try simp only [nsl, Nat.reduceAdd, Nat.reduceLT, Nat.reduceSub] at hF); (try simp only [nsl, Nat.reduceAdd, Nat.reduceLT, Nat.reduceSub] at hH); subst hF; subst hH
    refine ⟨AGX, ?_⟩
    refine am_ef (i := 22) (by rfl) (by rfl) rfl rfl (ef_call0 false (fun _ => acalls_frz (concatI_a [(subV w 0 i 1, ((cs.map fun z => [I z]).take i).drop 0), (vb, [[I x.limit]]), (subV w i (cs.map fun z => [I z]).length 1, ((cs.map fun z => [I z]).take (cs.map fun z => [I z]).length).drop i)] v2 hokI (by simp) (by simp) hlnI) rfl) rfl .fn rfl (by decide) (by kernel_rfl) rfl (fun _ => C0 rfl) (by simp)) ?_
    rintro _ _ ⟨_, _, _, ⟨vI, rfl, rfl⟩, hF, hH⟩
    (try simp only [nsl, Nat.reduceAdd, Nat.reduceLT, Nat.reduceSub] at hF); (try simp only [nsl, Nat.reduceAdd, Nat.reduceLT, Nat.reduceSub] at hH); subst hF; subst hH
    refine ⟨AGX, ?_⟩
    refine WN ?_
    rotate_right
    refine am_ef (i := 10) (by rfl) (by rfl) rfl rfl Ybsr ?_
    rintro _ _ ⟨v1, rfl, rfl⟩
    refine ⟨AGX, ?_⟩
    refine am_two (by rfl) (by rfl) (by rfl) ?_ ?_
    rotate_left
    refine am_ef (i := 21) (by rfl) (by rfl) rfl rfl Ybsr ?_
    rintro _ _ ⟨v2, rfl, rfl⟩
    refine ⟨AGX, ?_⟩
    refine am_ef (i := 11) (by rfl) (by rfl) rfl rfl (ef_call0 false (fun _ => acalls_frz (concatL_a [(subV v 0 i 2, ((l.map Leg.row).take i).drop 0), (va, [[I at_, I x.limit], [I (x.long - at_), I x.limit]]), (subV v (i + 1) (l.map Leg.row).length 2, ((l.map Leg.row).take (l.map Leg.row).length).drop (i + 1))] v1 hokL (by simp) (by simp) hlnL) rfl) rfl .fn rfl (by decide) (by kernel_rfl) rfl (fun _ => C0 rfl) (by simp)) ?_
    rintro _ _ ⟨_, _, _, ⟨vL, rfl, rfl⟩, hF, hH⟩
    (try simp only [nsl, Nat.reduceAdd, Nat.reduceLT, Nat.reduceSub] at hF); (try simp only [nsl, Nat.reduceAdd, Nat.reduceLT, Nat.reduceSub] at hH); subst hF; subst hH
    refine ⟨AGX, ?_⟩
    refine am_ef (i := 22) (by rfl) (by rfl) rfl rfl (ef_call0 false (fun _ => acalls_frz (concatI_a [(subV w 0 i 1, ((cs.map fun z => [I z]).take i).drop 0), (vb, [[I x.limit]]), (subV w i (cs.map fun z => [I z]).length 1, ((cs.map fun z => [I z]).take (cs.map fun z => [I z]).length).drop i)] v2 hokI (by simp) (by simp) hlnI) rfl) rfl .fn rfl (by decide) (by kernel_rfl) rfl (fun _ => C0 rfl) (by simp)) ?_
    rintro _ _ ⟨_, _, _, ⟨vI, rfl, rfl⟩, hF, hH⟩
    (try simp only [nsl, Nat.reduceAdd, Nat.reduceLT, Nat.reduceSub] at hF); (try simp only [nsl, Nat.reduceAdd, Nat.reduceLT, Nat.reduceSub] at hH); subst hF; subst hH
    refine ⟨AGX, ?_⟩
    refine WN ?_
    rotate_right
    refine am_ef (i := 11) (by rfl) (by rfl) rfl rfl (ef_call0 false (fun _ => acalls_frz (concatL_a [(subV v 0 i 2, ((l.map Leg.row).take i).drop 0), (va, [[I at_, I x.limit], [I (x.long - at_), I x.limit]]), (subV v (i + 1) (l.map Leg.row).length 2, ((l.map Leg.row).take (l.map Leg.row).length).drop (i + 1))] v1 hokL (by simp) (by simp) hlnL) rfl) rfl .fn rfl (by decide) (by kernel_rfl) rfl (fun _ => C0 rfl) (by simp)) ?_
    rintro _ _ ⟨_, _, _, ⟨vL, rfl, rfl⟩, hF, hH⟩
    (try simp only [nsl, Nat.reduceAdd, Nat.reduceLT, Nat.reduceSub] at hF); (try simp only [nsl, Nat.reduceAdd, Nat.reduceLT, Nat.reduceSub] at hH); subst hF; subst hH
    refine ⟨AGX, ?_⟩
    refine am_ef (i := 21) (by rfl) (by rfl) rfl rfl Ybsr ?_
    rintro _ _ ⟨v2, rfl, rfl⟩
    refine ⟨AGX, ?_⟩
    refine am_ef (i := 22) (by rfl) (by rfl) rfl rfl (ef_call0 false (fun _ => acalls_frz (concatI_a [(subV w 0 i 1, ((cs.map fun z => [I z]).take i).drop 0), (vb, [[I x.limit]]), (subV w i (cs.map fun z => [I z]).length 1, ((cs.map fun z => [I z]).take (cs.map fun z => [I z]).length).drop i)] v2 hokI (by simp) (by simp) hlnI) rfl) rfl .fn rfl (by decide) (by kernel_rfl) rfl (fun _ => C0 rfl) (by simp)) ?_
    rintro _ _ ⟨_, _, _, ⟨vI, rfl, rfl⟩, hF, hH⟩
    (try simp only [nsl, Nat.reduceAdd, Nat.reduceLT, Nat.reduceSub] at hF); (try simp only [nsl, Nat.reduceAdd, Nat.reduceLT, Nat.reduceSub] at hH); subst hF; subst hH
    refine ⟨AGX, ?_⟩
    refine WN ?_
    rotate_right
    refine am_ef (i := 10) (by rfl) (by rfl) rfl rfl Ybsr ?_
    rintro _ _ ⟨v1, rfl, rfl⟩
    refine ⟨AGX, ?_⟩
    refine am_two (by rfl) (by rfl) (by rfl) ?_ ?_
    rotate_left
    refine am_ef (i := 17) (by rfl) (by rfl) rfl rfl Ybsr ?_
    rintro _ _ ⟨vb, rfl, rfl⟩
    refine ⟨AGX, ?_⟩
    refine am_two (by rfl) (by rfl) (by rfl) ?_ ?_
    rotate_left
    refine am_ef (i := 21) (by rfl) (by rfl) rfl rfl Ybsr ?_
    rintro _ _ ⟨v2, rfl, rfl⟩
    refine ⟨AGX, ?_⟩
    refine am_ef (i := 11) (by rfl) (by rfl) rfl rfl (ef_call0 false (fun _ => acalls_frz (concatL_a [(subV v 0 i 2, ((l.map Leg.row).take i).drop 0), (va, [[I at_, I x.limit], [I (x.long - at_), I x.limit]]), (subV v (i + 1) (l.map Leg.row).length 2, ((l.map Leg.row).take (l.map Leg.row).length).drop (i + 1))] v1 hokL (by simp) (by simp) hlnL) rfl) rfl .fn rfl (by decide) (by kernel_rfl) rfl (fun _ => C0 rfl) (by simp)) ?_
    rintro _ _ ⟨_, _, _, ⟨vL, rfl, rfl⟩, hF, hH⟩
    (try simp only [nsl, Nat.reduceAdd, Nat.reduceLT, Nat.reduceSub] at hF); (try simp only [nsl, Nat.reduceAdd, Nat.reduceLT, Nat.reduceSub] at hH); subst hF; subst hH
    refine ⟨AGX, ?_⟩
    refine am_ef (i := 22) (by rfl) (by rfl) rfl rfl (ef_call0 false (fun _ => acalls_frz (concatI_a [(subV w 0 i 1, ((cs.map fun z => [I z]).take i).drop 0), (vb, [[I x.limit]]), (subV w i (cs.map fun z => [I z]).length 1, ((cs.map fun z => [I z]).take (cs.map fun z => [I z]).length).drop i)] v2 hokI (by simp) (by simp) hlnI) rfl) rfl .fn rfl (by decide) (by kernel_rfl) rfl (fun _ => C0 rfl) (by simp)) ?_
    rintro _ _ ⟨_, _, _, ⟨vI, rfl, rfl⟩, hF, hH⟩
    (try simp only [nsl, Nat.reduceAdd, Nat.reduceLT, Nat.reduceSub] at hF); (try simp only [nsl, Nat.reduceAdd, Nat.reduceLT, Nat.reduceSub] at hH); subst hF; subst hH
    refine ⟨AGX, ?_⟩
    refine WN ?_
    rotate_right
    refine am_ef (i := 11) (by rfl) (by rfl) rfl rfl (ef_call0 false (fun _ => acalls_frz (concatL_a [(subV v 0 i 2, ((l.map Leg.row).take i).drop 0), (va, [[I at_, I x.limit], [I (x.long - at_), I x.limit]]), (subV v (i + 1) (l.map Leg.row).length 2, ((l.map Leg.row).take (l.map Leg.row).length).drop (i + 1))] v1 hokL (by simp) (by simp) hlnL) rfl) rfl .fn rfl (by decide) (by kernel_rfl) rfl (fun _ => C0 rfl) (by simp)) ?_
    rintro _ _ ⟨_, _, _, ⟨vL, rfl, rfl⟩, hF, hH⟩
    (try simp only [nsl, Nat.reduceAdd, Nat.reduceLT, Nat.reduceSub] at hF); (try simp only [nsl, Nat.reduceAdd, Nat.reduceLT, Nat.reduceSub] at hH); subst hF; subst hH
    refine ⟨AGX, ?_⟩
    refine am_ef (i := 21) (by rfl) (by rfl) rfl rfl Ybsr ?_
    rintro _ _ ⟨v2, rfl, rfl⟩
    refine ⟨AGX, ?_⟩
    refine am_ef (i := 22) (by rfl) (by rfl) rfl rfl (ef_call0 false (fun _ => acalls_frz (concatI_a [(subV w 0 i 1, ((cs.map fun z => [I z]).take i).drop 0), (vb, [[I x.limit]]), (subV w i (cs.map fun z => [I z]).length 1, ((cs.map fun z => [I z]).take (cs.map fun z => [I z]).length).drop i)] v2 hokI (by simp) (by simp) hlnI) rfl) rfl .fn rfl (by decide) (by kernel_rfl) rfl (fun _ => C0 rfl) (by simp)) ?_
    rintro _ _ ⟨_, _, _, ⟨vI, rfl, rfl⟩, hF, hH⟩
    (try simp only [nsl, Nat.reduceAdd, Nat.reduceLT, Nat.reduceSub] at hF); (try simp only [nsl, Nat.reduceAdd, Nat.reduceLT, Nat.reduceSub] at hH); subst hF; subst hH
    refine ⟨AGX, ?_⟩
    refine WN ?_
    rotate_right
    refine am_ef (i := 11) (by rfl) (by rfl) rfl rfl (ef_call0 false (fun _ => acalls_frz (concatL_a [(subV v 0 i 2, ((l.map Leg.row).take i).drop 0), (va, [[I at_, I x.limit], [I (x.long - at_), I x.limit]]), (subV v (i + 1) (l.map Leg.row).length 2, ((l.map Leg.row).take (l.map Leg.row).length).drop (i + 1))] v1 hokL (by simp) (by simp) hlnL) rfl) rfl .fn rfl (by decide) (by kernel_rfl) rfl (fun _ => C0 rfl) (by simp)) ?_
    rintro _ _ ⟨_, _, _, ⟨vL, rfl, rfl⟩, hF, hH⟩
    (try simp only [nsl, Nat.reduceAdd, Nat.reduceLT, Nat.reduceSub] at hF); (try simp only [nsl, Nat.reduceAdd, Nat.reduceLT, Nat.reduceSub] at hH); subst hF; subst hH
    refine ⟨AGX, ?_⟩
    refine am_ef (i := 17) (by rfl) (by rfl) rfl rfl Ybsr ?_
    rintro _ _ ⟨vb, rfl, rfl⟩
    refine ⟨AGX, ?_⟩
    refine am_ef (i := 21) (by rfl) (by rfl) rfl rfl Ybsr ?_
    rintro _ _ ⟨v2, rfl, rfl⟩
    refine ⟨AGX, ?_⟩
    refine am_ef (i := 22) (by rfl) (by rfl) rfl rfl (ef_call0 false (fun _ => acalls_frz (concatI_a [(subV w 0 i 1, ((cs.map fun z => [I z]).take i).drop 0), (vb, [[I x.limit]]), (subV w i (cs.map fun z => [I z]).length 1, ((cs.map fun z => [I z]).take (cs.map fun z => [I z]).length).drop i)] v2 hokI (by simp) (by simp) hlnI) rfl) rfl .fn rfl (by decide) (by kernel_rfl) rfl (fun _ => C0 rfl) (by simp)) ?_
    rintro _ _ ⟨_, _, _, ⟨vI, rfl, rfl⟩, hF, hH⟩
    (try simp only [nsl, Nat.reduceAdd, Nat.reduceLT, Nat.reduceSub] at hF); (try simp only [nsl, Nat.reduceAdd, Nat.reduceLT, Nat.reduceSub] at hH); subst hF; subst hH
    refine ⟨AGX, ?_⟩
    refine WN ?_
  all_goals exact aret_2 [] _ rfl rfl rfl rfl rfl (by decide) (ZNK rfl) (fun _ => .nil) ⟨_, _, by rw [hcatL, hcatI], rfl⟩
end Go.Proofs.Ytpbedckdnoogpaa
