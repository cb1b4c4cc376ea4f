/- The statement ProgramsChecked: for every input the law returns true, and the input reads as it did. Conditions: none. -/
import Derived.Test.YtpbedckdnoogpaaHy
import Derived.Test.YtpbedckdnoogpaaPvz
import Derived.Test.YtpbedckdnoogpaaRows
import Derived.Test.YtpbedckdnoogpaaSs
import Derived.ProofKit
import Derived.ReadAgain
import Derived.ChangeSlices
import Derived.ChangeStays
import Derived.JoinedOf
import Derived.Test.YtpbedckdnoogpaaKa
import Derived.Test.YtpbedckdnoogpaaRf
set_option linter.unusedSimpArgs false
set_option linter.unusedVariables false
/- What a program prints: a step of the program's printer, by value. -/
namespace Go.Proofs.Ytpbedckdnoogpaa
open Go Go.RowKit
set_option maxRecDepth 100000
-- NEWM
def addP (l : List Pt) (q : Pt) : List Pt := if l.getLast? = some q then l else l ++ [q]
theorem addP_len (l : List Pt) (q : Pt) : l.length ≤ (addP l q).length ∧ (addP l q).length ≤ l.length + 1 := by
  unfold addP
  split
  · omega
  · simp
/-- The blocks of a printer. -/
abbrev stpH (R : List (List CV)) (hs fs : List Int) (g : Bool) (cp ch cf : Nat) : List OB := [.box [.o 1 0 R.length cp, .o 2 0 hs.length ch, .o 3 0 fs.length cf, .c (B g)], .arr 96 2 cp R, .arr 3 1 ch (hs.map fun z => [I z]), .arr 3 1 cf (fs.map fun z => [I z])]
/-- .. with the path that is being printed. -/
abbrev stpG (R : List (List CV)) (hs fs : List Int) (g : Bool) (cp ch cf : Nat) (A : Option Addr) (pts : List Pt) (c : Nat) (f : Int) : List OB := stpH (R ++ [[.s (.slice A pts.length c), B false]]) hs (fs ++ [f]) g cp ch cf ++ [.arr 145 2 c (pts.map Pt.row), .eqv (.o 4 0 pts.length c) (.slice A pts.length c)]
def prints (s : Step) : Prop := s.k = 4 ∧ 0 < s.f
def stops (s : Step) : Prop := s.k = 3 ∨ s.k = 4 ∨ s.k = 5
instance (s : Step) : Decidable (prints s) := by unfold prints; infer_instance
instance (s : Step) : Decidable (stops s) := by unfold stops; infer_instance
theorem stepO_a (s : Step) (hp : ¬ prints s) (a b : Mach) (R : List (List CV)) (hs fs : List Int) (g : Bool) (cp ch cf : Nat) :
    ACalls Try.prog 129 [.p 0 0 0, .a (s.row.map .c), .a (a.row.map .c), .a (b.row.map .c)] (stpH R hs fs g cp ch cf) fun u H => u = .t [] ∧ H = stpH R hs fs (if stops s then false else g) cp ch cf := by
  refine acalls_of (N := 119) Try.func129 rfl rfl (by simp) fun E hE => ?_
  refine WA ?_
  by_cases h4 : s.k = 4
  · have hf : ¬ 0 < s.f := fun h => hp ⟨h4, h⟩
    refine WA ?_
    refine aw_cond_f rfl ?_
    refine WR ?_
    refine al_ef rfl (ef_call0 false (fun _ => isplaced_h _) rfl .fn rfl (by decide) (by kernel_rfl) rfl (fun _g => .cons (.c rfl) .nil) (by simp)) ?_
    rintro _ _ ⟨_, _, _, ⟨b, rfl, rfl, hb1, hb2⟩, hF, hH⟩
    (try simp only [nsl, Nat.reduceAdd, Nat.reduceLT, Nat.reduceSub] at hF); (try simp only [nsl, Nat.reduceAdd, Nat.reduceLT, Nat.reduceSub] at hH); subst hF; subst hH
    cases b
    all_goals (simp only [true_implies, false_implies, reduceCtorEq] at hb1 hb2)
    all_goals (refine WE ?_)
    all_goals try (exfalso; omega)
    all_goals refine aw_cond_t rfl ?_
    all_goals skip
    refine WA ?_
    exact aret_0 [some 0, some 1, some 2, some 3] (fun _ => stpH R hs fs false cp ch cf) (.inr rfl) rfl (by decide) (ZNL (n := 4) rfl) ZCH (fun _ => ⟨rfl, by rw [if_pos (.inr (.inl h4))]⟩)
  refine WA ?_
  refine aw_cond_f rfl ?_
  by_cases h3 : s.k = 3
  · refine WR ?_
    refine al_ef rfl (ef_call0 false (fun _ => isplaced_h _) rfl .fn rfl (by decide) (by kernel_rfl) rfl (fun _g => .cons (.c rfl) .nil) (by simp)) ?_
    rintro _ _ ⟨_, _, _, ⟨b, rfl, rfl, hb1, hb2⟩, hF, hH⟩
    (try simp only [nsl, Nat.reduceAdd, Nat.reduceLT, Nat.reduceSub] at hF); (try simp only [nsl, Nat.reduceAdd, Nat.reduceLT, Nat.reduceSub] at hH); subst hF; subst hH
    cases b
    all_goals (simp only [true_implies, false_implies, reduceCtorEq] at hb1 hb2)
    all_goals (refine WE ?_)
    all_goals try (exfalso; omega)
    all_goals refine aw_cond_t rfl ?_
    all_goals skip
    refine WA ?_
    exact aret_0 [some 0, some 1, some 2, some 3] (fun _ => stpH R hs fs false cp ch cf) (.inr rfl) rfl (by decide) (ZNL (n := 4) rfl) ZCH (fun _ => ⟨rfl, by rw [if_pos (.inl h3)]⟩)
  by_cases h5 : s.k = 5
  · refine WR ?_
    refine al_ef rfl (ef_call0 false (fun _ => isplaced_h _) rfl .fn rfl (by decide) (by kernel_rfl) rfl (fun _g => .cons (.c rfl) .nil) (by simp)) ?_
    rintro _ _ ⟨_, _, _, ⟨b, rfl, rfl, hb1, hb2⟩, hF, hH⟩
    (try simp only [nsl, Nat.reduceAdd, Nat.reduceLT, Nat.reduceSub] at hF); (try simp only [nsl, Nat.reduceAdd, Nat.reduceLT, Nat.reduceSub] at hH); subst hF; subst hH
    cases b
    all_goals (simp only [true_implies, false_implies, reduceCtorEq] at hb1 hb2)
    all_goals (refine WE ?_)
    all_goals try (exfalso; omega)
    all_goals refine aw_cond_t rfl ?_
    all_goals skip
    refine WA ?_
    exact aret_0 [some 0, some 1, some 2, some 3] (fun _ => stpH R hs fs false cp ch cf) (.inr rfl) rfl (by decide) (ZNL (n := 4) rfl) ZCH (fun _ => ⟨rfl, by rw [if_pos (.inr (.inr h5))]⟩)
  · refine WR ?_
    refine al_ef rfl (ef_call0 false (fun _ => isplaced_h _) rfl .fn rfl (by decide) (by kernel_rfl) rfl (fun _g => .cons (.c rfl) .nil) (by simp)) ?_
    rintro _ _ ⟨_, _, _, ⟨b, rfl, rfl, hb1, hb2⟩, hF, hH⟩
    (try simp only [nsl, Nat.reduceAdd, Nat.reduceLT, Nat.reduceSub] at hF); (try simp only [nsl, Nat.reduceAdd, Nat.reduceLT, Nat.reduceSub] at hH); subst hF; subst hH
    cases b
    all_goals (simp only [true_implies, false_implies, reduceCtorEq] at hb1 hb2)
    all_goals (refine WE ?_)
    all_goals try (exfalso; omega)
    all_goals refine aw_cond_f rfl ?_
    all_goals skip
    refine ZZ ?_
    exact aret_0 [some 0, some 1, some 2, some 3] (fun _ => stpH R hs fs g cp ch cf) (.inr rfl) rfl (by decide) (ZNL (n := 4) rfl) ZCH (fun _ => ⟨rfl, by rw [if_neg (by unfold stops; omega)]⟩)
set_option maxHeartbeats 4000000 in
theorem stepN_a (s : Step) (hp : prints s) (hsg : s.good) (a b : Mach) (R : List (List CV)) (hR : ∀ r ∈ R, r.length = 2 ∧ ∀ u ∈ r, u.one = true) (hs fs : List Int) (cp ch cf : Nat) (h1 : R.length ≤ 1000000) (h2 : hs.length = R.length) (h3 : fs.length = R.length) :
    ACalls Try.prog 129 [.p 0 0 0, .a (s.row.map .c), .a (a.row.map .c), .a (b.row.map .c)] (stpH R hs fs false cp ch cf) fun u H => ∃ cp' ch' cf' A c, u = .t [] ∧ H = stpG R (hs ++ [b.z]) fs true cp' ch' cf' A (addP [⟨a.x, a.y⟩] ⟨b.x, b.y⟩) c (0 + s.f) := by
  obtain ⟨h4, hf⟩ := hp
  have hsf := hsg.2.2.2.2.1
  refine acallsx_of false (N := 119) Try.func129 rfl rfl (by simp) fun E hE hP => ?_
  refine WA ?_
  refine WA ?_
  refine aw_cond_t rfl ?_
  refine WR ?_
  refine al_nil ?_
  refine aseq_n ?_
  refine aw_cut (fun F H => ∃ cp' ch' cf' A, F = [(0, .p 0 0 0), (5, .p 6 0 0), (7, .p 8 0 0)] ∧ H = stpG R (hs ++ [b.z]) fs true cp' ch' cf' A [⟨a.x, a.y⟩] 1 0 ++ [.box (s.row.map .c), .box (a.row.map .c), .box (b.row.map .c)]) ?_ ?_ wk_aw
  · refine aw_cond_t rfl ?_
    refine WA ?_
    refine ZZ ?_
    refine aw_regionT [(0, none), (1, none), (2, none), (3, none), (4, none), (5, none), (6, some [0, 1, 2, 3, 4]), (7, some [0, 1, 2, 3, 4]), (8, none), (9, some [0, 1, 2, 3, 4]), (10, some [0]), (11, none), (12, none), (13, some [])] hMixed (by kernel_rfl) ?_
    refine WP ?_
    refine at_ef rfl rfl (ef_call0 false (fun _ => place_a a) rfl .fn rfl (by decide) (by kernel_rfl) rfl (fun _ => C0 rfl) (by simp)) ?_
    rintro _ _ ⟨_, _, _, ⟨rfl, rfl⟩, hF, hH⟩
    (try simp only [nsl, Nat.reduceAdd, Nat.reduceLT, Nat.reduceSub] at hF); (try simp only [nsl, Nat.reduceAdd, Nat.reduceLT, Nat.reduceSub] at hH); subst hF; subst hH
    refine ⟨ag_cons (by first | exact ag_rd rfl rfl rfl (rd_move rfl rfl) rfl) (ag_cons (by first | exact ag_rd rfl rfl rfl (rd_move rfl rfl) rfl) (ag_cons (by first | exact ag_rd rfl rfl rfl (rd_nil rfl rfl) rfl | exact ag_rd rfl rfl rfl (rd_nilq rfl rfl) rfl) (ag_cons (by first | exact ag_rd rfl rfl rfl (ZX (KF (t := 149) (f := 0) rfl rfl)) rfl) (ag_cons (by first | exact ag_rd rfl rfl rfl (ZL (KK (t := 84) rfl)) rfl) (ag_none))))), ?_⟩
    refine WX2 ?_
    refine at_ghost (i := 35) rfl fun A => ?_
    refine WX2 ?_
    refine WP ?_
    refine at_ef rfl rfl (Zapp (KA (t := 84) rfl)) ?_
    rintro _ _ ⟨_, cc, hcc, rfl, rfl⟩
    refine ⟨ag_cons (by first | exact ag_rd rfl rfl rfl (rd_move rfl rfl) rfl) (ag_none), ?_⟩
    refine WQ ?_
    refine ZZ ?_
    refine aw_regionM [[(0, none), (1, none), (2, none), (3, none), (4, none), (5, none), (6, none), (7, none), (10, none), (11, none), (12, none), (13, none), (8, some [0, 1, 2, 3, 4, 5, 10, 11, 12, 13]), (9, some [0, 1, 10, 11, 12, 13]), (14, some [0, 1, 2, 3, 4, 5, 6, 7, 10, 11, 12, 13]), (15, some [0, 1]), (16, none), (17, none), (18, some [1]), (19, none), (20, none), (21, some [])], [(0, none), (1, none), (2, none), (3, none), (4, none), (5, none), (6, none), (7, none), (10, none), (11, none), (12, none), (13, none), (8, some [0, 1, 2, 3, 4, 5, 10, 11, 12, 13]), (14, some [0, 1, 2, 3, 4, 5, 6, 7, 10, 11, 12, 13]), (9, some [0, 1, 10, 11, 12, 13]), (15, some [0, 1]), (16, none), (17, none), (18, some [1]), (19, none), (20, none), (21, some [])], [(0, none), (1, none), (2, none), (3, none), (4, none), (5, none), (6, none), (7, none), (10, none), (11, none), (12, none), (13, none), (14, some [0, 1, 2, 3, 4, 5, 6, 7, 10, 11, 12, 13]), (8, some [0, 1, 2, 3, 4, 5, 10, 11, 12, 13]), (9, some [0, 1, 10, 11, 12, 13]), (15, some [0, 1]), (16, none), (17, none), (18, some [1]), (19, none), (20, none), (21, some [])]] hMixed (by kernel_rfl) ?_
    focus
      refine WM ?_
      refine am_two (by rfl) (by rfl) (by rfl) ?_ ?_
      rotate_left
      refine WM ?_
      refine am_ef (i := 9) (by rfl) (by rfl) rfl rfl (Zapp (KA (t := 22) rfl)) ?_
      rintro _ _ ⟨_, cc, hcc, rfl, rfl⟩
      refine ⟨AGX, ?_⟩
      refine am_ef (i := 15) (by rfl) (by rfl) rfl rfl (Zapp (KA (t := 22) rfl)) ?_
      rintro _ _ ⟨_, cc, hcc, rfl, rfl⟩
      (try simp only [List.set_cons_zero, List.set_cons_succ, updH, posOf, lentArr, killF, killO, killV, AV.has, AV.hasL, AV.emb, AV.embL, OB.emb, embB, List.filter_cons, List.filter_nil, List.getElem?_cons_zero, List.getElem?_cons_succ, List.getD_cons_zero, List.getD_cons_succ, List.drop_succ_cons, List.drop_zero, List.drop_nil, List.contains_cons, List.contains_nil, Nat.reduceBEq, Nat.reduceEqDiff, beq_self_eq_true, Bool.or_false, Bool.false_or, Bool.or_true, Bool.true_or, Bool.false_eq_true, Option.map_some, Option.map_none, List.map_cons, List.map_nil, List.cons_append, List.nil_append, List.append_nil, List.length_cons, List.length_nil, Nat.reduceAdd, Nat.reduceLT, Nat.reduceSub, if_true, if_false, Nat.zero_add, Nat.add_zero, Nat.sub_zero, Nat.lt_irrefl, Nat.not_lt_zero, Nat.zero_lt_one, Nat.lt_add_one])
      refine ⟨AGX, ?_⟩
      refine WN ?_
      rotate_right
      refine WM ?_
      refine am_two (by rfl) (by rfl) (by rfl) ?_ ?_
      rotate_left
      refine WM ?_
      refine am_ef (i := 9) (by rfl) (by rfl) rfl rfl (Zapp (KA (t := 22) rfl)) ?_
      rintro _ _ ⟨_, cc, hcc, rfl, rfl⟩
      refine ⟨AGX, ?_⟩
      refine am_ef (i := 15) (by rfl) (by rfl) rfl rfl (Zapp (KA (t := 22) rfl)) ?_
      rintro _ _ ⟨_, cc, hcc, rfl, rfl⟩
      (try simp only [List.set_cons_zero, List.set_cons_succ, updH, posOf, lentArr, killF, killO, killV, AV.has, AV.hasL, AV.emb, AV.embL, OB.emb, embB, List.filter_cons, List.filter_nil, List.getElem?_cons_zero, List.getElem?_cons_succ, List.getD_cons_zero, List.getD_cons_succ, List.drop_succ_cons, List.drop_zero, List.drop_nil, List.contains_cons, List.contains_nil, Nat.reduceBEq, Nat.reduceEqDiff, beq_self_eq_true, Bool.or_false, Bool.false_or, Bool.or_true, Bool.true_or, Bool.false_eq_true, Option.map_some, Option.map_none, List.map_cons, List.map_nil, List.cons_append, List.nil_append, List.append_nil, List.length_cons, List.length_nil, Nat.reduceAdd, Nat.reduceLT, Nat.reduceSub, if_true, if_false, Nat.zero_add, Nat.add_zero, Nat.sub_zero, Nat.lt_irrefl, Nat.not_lt_zero, Nat.zero_lt_one, Nat.lt_add_one])
      refine ⟨AGX, ?_⟩
      refine WN ?_
      rotate_right
      refine am_ef (i := 9) (by rfl) (by rfl) rfl rfl (Zapp (KA (t := 22) rfl)) ?_
      rintro _ _ ⟨_, cc, hcc, rfl, rfl⟩
      refine ⟨AGX, ?_⟩
      refine WM ?_
      refine am_ef (i := 15) (by rfl) (by rfl) rfl rfl (Zapp (KA (t := 22) rfl)) ?_
      rintro _ _ ⟨_, cc, hcc, rfl, rfl⟩
      (try simp only [List.set_cons_zero, List.set_cons_succ, updH, posOf, lentArr, killF, killO, killV, AV.has, AV.hasL, AV.emb, AV.embL, OB.emb, embB, List.filter_cons, List.filter_nil, List.getElem?_cons_zero, List.getElem?_cons_succ, List.getD_cons_zero, List.getD_cons_succ, List.drop_succ_cons, List.drop_zero, List.drop_nil, List.contains_cons, List.contains_nil, Nat.reduceBEq, Nat.reduceEqDiff, beq_self_eq_true, Bool.or_false, Bool.false_or, Bool.or_true, Bool.true_or, Bool.false_eq_true, Option.map_some, Option.map_none, List.map_cons, List.map_nil, List.cons_append, List.nil_append, List.append_nil, List.length_cons, List.length_nil, Nat.reduceAdd, Nat.reduceLT, Nat.reduceSub, if_true, if_false, Nat.zero_add, Nat.add_zero, Nat.sub_zero, Nat.lt_irrefl, Nat.not_lt_zero, Nat.zero_lt_one, Nat.lt_add_one])
      refine ⟨AGX, ?_⟩
      refine WN ?_
    all_goals refine wk_of [some 0, some 1, some 2, some 3, some 7, some 8, some 4, some 5, some 6] (fun _ => [(0, .p 0 0 0), (5, .p 6 0 0), (7, .p 8 0 0)]) (fun _ => stpG R (hs ++ [b.z]) fs true _ _ _ A [⟨a.x, a.y⟩] 1 0 ++ [.box (s.row.map .c), .box (a.row.map .c), .box (b.row.map .c)]) (by decide) (ZNL hE) ZCF ZCG (fun _ => ?_)
    all_goals exact ⟨_, _, _, A, rfl, rfl⟩
  rintro F H ⟨cp, ch, cf, A, rfl, rfl⟩
  generalize hs ++ [b.z] = hs
  obtain ⟨pts, hpts⟩ : ∃ pts : List Pt, pts = [⟨a.x, a.y⟩] := ⟨_, rfl⟩
  obtain ⟨f, hf0⟩ : ∃ f : Int, f = 0 := ⟨_, rfl⟩
  obtain ⟨c, hc⟩ : ∃ c : Nat, c = 1 := ⟨_, rfl⟩
  have hpl : 1 ≤ pts.length ∧ pts.length ≤ 1000000 := by rw [hpts]; simp
  have hfb : 0 ≤ f ∧ f ≤ 100000000000000000 := by omega
  rw [show stpG R hs fs true cp ch cf A [⟨a.x, a.y⟩] 1 0 = stpG R hs fs true cp ch cf A pts c f by rw [hpts, hf0, hc]]
  rw [← hpts, ← hf0]
  clear hpts hf0 hc
  have hpos := addP_len pts ⟨b.x, b.y⟩
  have eR : (R ++ [[CV.s (.slice A pts.length c), B false]]).length = R.length + 1 := by simp
  have hrow1 : (R ++ [[CV.s (.slice A pts.length c), B false]])[R.length]? = some [CV.s (.slice A pts.length c), B false] := by simp
  obtain ⟨q, hq⟩ : ∃ q, pts[pts.length - 1]? = some q := ⟨_, List.getElem?_eq_getElem (by omega)⟩
  have hql : pts.getLast? = some q := by rw [List.getLast?_eq_getElem?]; exact hq
  have hrow2 : (pts.map Pt.row)[pts.length - 1]? = some q.row := by rw [List.getElem?_map, hq]; rfl
  refine ZR ?_
  iterate 5 refine WX1 ?_
  refine ZA (rd_subz (z := (R.length : Int)) rfl rfl rfl (by omega) (by omega)) ?_
  refine WE ?_
  refine WR ?_
  refine al_nil ?_
  refine aseq_n ?_
  refine aw_thaw (i := 9) (b := 5) rfl rfl ?_
  refine WR ?_
  refine al_ef rfl (ef_call0 false (fun _ => place_a b) rfl .fn rfl (by decide) (by kernel_rfl) rfl (fun _ => C0 rfl) (by simp)) ?_
  rintro _ _ ⟨_, _, _, ⟨rfl, rfl⟩, hF, hH⟩
  (try simp only [nsl, Nat.reduceAdd, Nat.reduceLT, Nat.reduceSub] at hF); (try simp only [nsl, Nat.reduceAdd, Nat.reduceLT, Nat.reduceSub] at hH); subst hF; subst hH
  refine WE ?_
  refine ZZ ?_
  refine aw_regionT [(0, none), (1, none), (2, none), (3, none), (4, none), (5, none), (6, none), (7, none)] hMixed (by kernel_rfl) ?_
  iterate 3 refine WX2 ?_
  refine ZT rfl (rd_subz (z := ((pts.length - 1 : Nat) : Int)) rfl rfl rfl (by omega) (by omega)) ?_
  refine WP ?_
  refine at_nil ?_
  refine aseq_n ?_
  refine aw_cut (fun F H => ∃ cp' ch' cf' A' c', F = [(0, .p 0 0 0), (5, .p 6 0 0), (8, .c (I R.length))] ∧ H = stpG R hs fs true cp' ch' cf' A' (addP pts ⟨b.x, b.y⟩) c' f ++ [.box (s.row.map .c)]) ?_ ?_ wk_aw
  · refine aw_if rfl (fun hne => ?_) (fun heq => ?_)
    · have hadd : addP pts ⟨b.x, b.y⟩ = pts ++ [⟨b.x, b.y⟩] := by
        rw [addP, if_neg]
        rw [hql]
        rintro h
        injection h with h
        subst h
        exact hne ⟨rfl, rfl⟩
      rw [hadd]
      refine ZZ ?_
      refine aw_regionT [(0, none), (1, none), (2, none), (3, none), (4, none), (5, none), (6, none), (7, some [0, 1, 2, 3, 4, 5]), (8, some [0, 1, 2, 3, 4]), (9, none), (10, none), (11, some [])] hMixed (by kernel_rfl) ?_
      refine WP ?_
      refine at_ef rfl rfl (Zapp (KA (t := 94) rfl)) ?_
      rintro _ _ ⟨_, cc, hcc, rfl, rfl⟩
      refine ⟨ag_cons (by first | exact ag_rd rfl rfl rfl (rd_move rfl rfl) rfl) (ag_cons (by first | exact ag_rd rfl rfl rfl (rd_nil rfl rfl) rfl | exact ag_rd rfl rfl rfl (rd_nilq rfl rfl) rfl) (ag_cons (by first | exact ag_rd rfl rfl rfl (ZX (KF (t := 149) (f := 0) rfl rfl)) rfl) (ag_cons (by first | exact ag_rd rfl rfl rfl (ZL (KK (t := 84) rfl)) rfl) (ag_cons (by first | exact ag_rd rfl rfl rfl (rd_move rfl rfl) rfl) (ag_none))))), ?_⟩
      refine at_ghost (i := 93) rfl fun A2 => ?_
      refine WX2 ?_
      refine WQ ?_
      have hlen : (pts ++ [(⟨b.x, b.y⟩ : Pt)]).length = pts.length + 1 := by simp
      have hset : (R ++ [[CV.s (.slice A pts.length c), B false]]).set R.length [CV.s (.slice A2 (pts.length + 1) cc), B false] = R ++ [[CV.s (.slice A2 (pts.length + 1) cc), B false]] := by simp
      refine wk_ofk [some 0, some 1, some 2, some 3, some 4, some 11, some 6] (fun _ => [(0, .p 0 0 0), (5, .p 6 0 0), (8, .c (I R.length))]) (fun _ => [.box [.o 1 0 (R ++ [[CV.s (.slice A2 (pts.length + 1) cc), B false]]).length cp, .o 2 0 hs.length ch, .o 3 0 (fs ++ [f]).length cf, .c (B true)], .arr 96 2 cp (R ++ [[CV.s (.slice A2 (pts.length + 1) cc), B false]]), .arr 3 1 ch (hs.map fun z => [I z]), .arr 3 1 cf ((fs ++ [f]).map fun z => [I z]), .arr 145 2 cc ((pts ++ [(⟨b.x, b.y⟩ : Pt)]).map Pt.row), .eqv (.o 4 0 (pts.length + 1) cc) (.slice A2 (pts.length + 1) cc), .box (s.row.map .c)]) hE hP (by decide) (by rfl) ZCF ZCG (fun _ => ?_)
      exact ⟨cp, ch, cf, A2, cc, rfl, by unfold stpG; rw [hlen]; rfl⟩
    · have hadd : addP pts ⟨b.x, b.y⟩ = pts := by
        obtain ⟨e1, e2⟩ := Decidable.not_not.1 heq
        rw [addP, if_pos]
        rw [hql, ← e1, ← e2]
      rw [hadd]
      refine ZZ ?_
      refine wk_of [some 0, some 1, some 2, some 3, some 4, some 5, some 6] (fun _ => [(0, .p 0 0 0), (5, .p 6 0 0), (8, .c (I R.length))]) (fun _ => stpG R hs fs true cp ch cf A pts c f ++ [.box (s.row.map .c)]) (by decide) (ZNL hE) ZCF ZCG (fun _ => ?_)
      exact ⟨cp, ch, cf, A, c, rfl, rfl⟩
  rintro F H ⟨cp', ch', cf', A', c', rfl, rfl⟩
  have eF : (fs ++ [f]).length = R.length + 1 := by simp; omega
  have hrow3 : ((fs ++ [f]).map fun z => [I z])[R.length]? = some [I f] := by rw [← h3]; simp
  have hset3 : ((fs ++ [f]).map fun z => [I z]).set R.length [I (f + s.f)] = (fs ++ [f + s.f]).map fun z => [I z] := by rw [← h3]; simp
  generalize hR2 : R ++ [[CV.s (.slice A' (addP pts ⟨b.x, b.y⟩).length c'), B false]] = R2
  refine ZZ ?_
  refine aw_regionT [(0, none), (1, none), (2, none), (3, none), (4, none), (5, none), (6, none), (7, none), (8, none), (9, none), (10, none), (11, some [])] hMixed (by kernel_rfl) ?_
  refine WQ ?_
  subst hR2
  all_goals exact aret_0 [some 0, some 1, some 2, some 3, some 4, some 5] (fun _ => stpG R hs fs true cp' ch' cf' A' (addP pts ⟨b.x, b.y⟩) c' (f + s.f)) (.inr rfl) rfl (by decide) (ZNK rfl) ZCG (fun _ => ⟨cp', ch', cf', A', c', rfl, rfl⟩)
set_option maxHeartbeats 4000000 in
theorem stepG_a (s : Step) (hp : prints s) (hsg : s.good) (a b : Mach) (R : List (List CV)) (hs fs : List Int) (cp ch cf : Nat) (A : Option Addr) (pts : List Pt) (c : Nat) (f : Int) (h1 : R.length ≤ 1000000) (h3 : fs.length = R.length) (hpl : 1 ≤ pts.length ∧ pts.length ≤ 1000000) (hfb : 0 ≤ f ∧ f ≤ 100000000000000000) :
    ACalls Try.prog 129 [.p 0 0 0, .a (s.row.map .c), .a (a.row.map .c), .a (b.row.map .c)] (stpG R hs fs true cp ch cf A pts c f) fun u H => ∃ cp' ch' cf' A' c', u = .t [] ∧ H = stpG R hs fs true cp' ch' cf' A' (addP pts ⟨b.x, b.y⟩) c' (f + s.f) := by
  obtain ⟨h4, hf⟩ := hp
  have hsf := hsg.2.2.2.2.1
  refine acallsx_of false (N := 119) Try.func129 rfl rfl (by simp) fun E hE hP => ?_
  refine WA ?_
  refine WA ?_
  refine aw_cond_t rfl ?_
  refine WR ?_
  refine al_nil ?_
  refine aseq_n ?_
  refine aw_cut (fun F H => F = [(0, .p 0 0 0), (5, .p 6 0 0), (7, .p 8 0 0)] ∧ H = stpG R hs fs true cp ch cf A pts c f ++ [.box (s.row.map .c), .box (a.row.map .c), .box (b.row.map .c)]) ?_ ?_ wk_aw
  · refine aw_cond_f rfl ?_
    refine ZZ ?_
    exact wk_of [some 0, some 1, some 2, some 3, some 4, some 5, some 6, some 7, some 8] (fun _ => [(0, .p 0 0 0), (5, .p 6 0 0), (7, .p 8 0 0)]) (fun _ => stpG R hs fs true cp ch cf A pts c f ++ [.box (s.row.map .c), .box (a.row.map .c), .box (b.row.map .c)]) (by decide) (ZNL hE) ZCF ZCG (fun _ => ⟨rfl, rfl⟩)
  rintro F H ⟨rfl, rfl⟩
  have hpos := addP_len pts ⟨b.x, b.y⟩
  have eR : (R ++ [[CV.s (.slice A pts.length c), B false]]).length = R.length + 1 := by simp
  have hrow1 : (R ++ [[CV.s (.slice A pts.length c), B false]])[R.length]? = some [CV.s (.slice A pts.length c), B false] := by simp
  obtain ⟨q, hq⟩ : ∃ q, pts[pts.length - 1]? = some q := ⟨_, List.getElem?_eq_getElem (by omega)⟩
  have hql : pts.getLast? = some q := by rw [List.getLast?_eq_getElem?]; exact hq
  have hrow2 : (pts.map Pt.row)[pts.length - 1]? = some q.row := by rw [List.getElem?_map, hq]; rfl
  refine ZR ?_
  iterate 5 refine WX1 ?_
  refine ZA (rd_subz (z := (R.length : Int)) rfl rfl rfl (by omega) (by omega)) ?_
  refine WE ?_
  refine WR ?_
  refine al_nil ?_
  refine aseq_n ?_
  refine aw_thaw (i := 9) (b := 5) rfl rfl ?_
  refine WR ?_
  refine al_ef rfl (ef_call0 false (fun _ => place_a b) rfl .fn rfl (by decide) (by kernel_rfl) rfl (fun _ => C0 rfl) (by simp)) ?_
  rintro _ _ ⟨_, _, _, ⟨rfl, rfl⟩, hF, hH⟩
  (try simp only [nsl, Nat.reduceAdd, Nat.reduceLT, Nat.reduceSub] at hF); (try simp only [nsl, Nat.reduceAdd, Nat.reduceLT, Nat.reduceSub] at hH); subst hF; subst hH
  refine WE ?_
  refine ZZ ?_
  refine aw_regionT [(0, none), (1, none), (2, none), (3, none), (4, none), (5, none), (6, none), (7, none)] hMixed (by kernel_rfl) ?_
  iterate 3 refine WX2 ?_
  refine ZT rfl (rd_subz (z := ((pts.length - 1 : Nat) : Int)) rfl rfl rfl (by omega) (by omega)) ?_
  refine WP ?_
  refine at_nil ?_
  refine aseq_n ?_
  refine aw_cut (fun F H => ∃ cp' ch' cf' A' c', F = [(0, .p 0 0 0), (5, .p 6 0 0), (8, .c (I R.length))] ∧ H = stpG R hs fs true cp' ch' cf' A' (addP pts ⟨b.x, b.y⟩) c' f ++ [.box (s.row.map .c)]) ?_ ?_ wk_aw
  · refine aw_if rfl (fun hne => ?_) (fun heq => ?_)
    · have hadd : addP pts ⟨b.x, b.y⟩ = pts ++ [⟨b.x, b.y⟩] := by
        rw [addP, if_neg]
        rw [hql]
        rintro h
        injection h with h
        subst h
        exact hne ⟨rfl, rfl⟩
      rw [hadd]
      refine ZZ ?_
      refine aw_regionT [(0, none), (1, none), (2, none), (3, none), (4, none), (5, none), (6, none), (7, some [0, 1, 2, 3, 4, 5]), (8, some [0, 1, 2, 3, 4]), (9, none), (10, none), (11, some [])] hMixed (by kernel_rfl) ?_
      refine WP ?_
      refine at_ef rfl rfl (Zapp (KA (t := 94) rfl)) ?_
      rintro _ _ ⟨_, cc, hcc, rfl, rfl⟩
      refine ⟨ag_cons (by first | exact ag_rd rfl rfl rfl (rd_move rfl rfl) rfl) (ag_cons (by first | exact ag_rd rfl rfl rfl (rd_nil rfl rfl) rfl | exact ag_rd rfl rfl rfl (rd_nilq rfl rfl) rfl) (ag_cons (by first | exact ag_rd rfl rfl rfl (ZX (KF (t := 149) (f := 0) rfl rfl)) rfl) (ag_cons (by first | exact ag_rd rfl rfl rfl (ZL (KK (t := 84) rfl)) rfl) (ag_cons (by first | exact ag_rd rfl rfl rfl (rd_move rfl rfl) rfl) (ag_none))))), ?_⟩
      refine at_ghost (i := 93) rfl fun A2 => ?_
      refine WX2 ?_
      refine WQ ?_
      have hlen : (pts ++ [(⟨b.x, b.y⟩ : Pt)]).length = pts.length + 1 := by simp
      have hset : (R ++ [[CV.s (.slice A pts.length c), B false]]).set R.length [CV.s (.slice A2 (pts.length + 1) cc), B false] = R ++ [[CV.s (.slice A2 (pts.length + 1) cc), B false]] := by simp
      refine wk_ofk [some 0, some 1, some 2, some 3, some 4, some 11, some 6] (fun _ => [(0, .p 0 0 0), (5, .p 6 0 0), (8, .c (I R.length))]) (fun _ => [.box [.o 1 0 (R ++ [[CV.s (.slice A2 (pts.length + 1) cc), B false]]).length cp, .o 2 0 hs.length ch, .o 3 0 (fs ++ [f]).length cf, .c (B true)], .arr 96 2 cp (R ++ [[CV.s (.slice A2 (pts.length + 1) cc), B false]]), .arr 3 1 ch (hs.map fun z => [I z]), .arr 3 1 cf ((fs ++ [f]).map fun z => [I z]), .arr 145 2 cc ((pts ++ [(⟨b.x, b.y⟩ : Pt)]).map Pt.row), .eqv (.o 4 0 (pts.length + 1) cc) (.slice A2 (pts.length + 1) cc), .box (s.row.map .c)]) hE hP (by decide) (by rfl) ZCF ZCG (fun _ => ?_)
      exact ⟨cp, ch, cf, A2, cc, rfl, by unfold stpG; rw [hlen]; rfl⟩
    · have hadd : addP pts ⟨b.x, b.y⟩ = pts := by
        obtain ⟨e1, e2⟩ := Decidable.not_not.1 heq
        rw [addP, if_pos]
        rw [hql, ← e1, ← e2]
      rw [hadd]
      refine ZZ ?_
      refine wk_of [some 0, some 1, some 2, some 3, some 4, some 5, some 6] (fun _ => [(0, .p 0 0 0), (5, .p 6 0 0), (8, .c (I R.length))]) (fun _ => stpG R hs fs true cp ch cf A pts c f ++ [.box (s.row.map .c)]) (by decide) (ZNL hE) ZCF ZCG (fun _ => ?_)
      exact ⟨cp, ch, cf, A, c, rfl, rfl⟩
  rintro F H ⟨cp', ch', cf', A', c', rfl, rfl⟩
  have eF : (fs ++ [f]).length = R.length + 1 := by simp; omega
  have hrow3 : ((fs ++ [f]).map fun z => [I z])[R.length]? = some [I f] := by rw [← h3]; simp
  have hset3 : ((fs ++ [f]).map fun z => [I z]).set R.length [I (f + s.f)] = (fs ++ [f + s.f]).map fun z => [I z] := by rw [← h3]; simp
  generalize hR2 : R ++ [[CV.s (.slice A' (addP pts ⟨b.x, b.y⟩).length c'), B false]] = R2
  refine ZZ ?_
  refine aw_regionT [(0, none), (1, none), (2, none), (3, none), (4, none), (5, none), (6, none), (7, none), (8, none), (9, none), (10, none), (11, some [])] hMixed (by kernel_rfl) ?_
  refine WQ ?_
  subst hR2
  all_goals exact aret_0 [some 0, some 1, some 2, some 3, some 4, some 5] (fun _ => stpG R hs fs true cp' ch' cf' A' (addP pts ⟨b.x, b.y⟩) c' (f + s.f)) (.inr rfl) rfl (by decide) (ZNK rfl) ZCG (fun _ => ⟨cp', ch', cf', A', c', rfl, rfl⟩)
end Go.Proofs.Ytpbedckdnoogpaa

/- What a program prints: the program's run of its printer, by value. -/
namespace Go.Proofs.Ytpbedckdnoogpaa
open Go Go.RowKit
set_option maxRecDepth 100000
-- NEWM
abbrev PV := Option Addr × Nat × List Pt
abbrev rowP (p : PV) : List CV := [.r (.slice p.1 p.2.2.length p.2.1) (p.2.2.map Pt.row), B false]
abbrev prtH (l : List Step) (v : Value) (R : List (List CV)) (hs fs : List Int) (g : Bool) (cp ch cf : Nat) : List OB := [.box [.p 2 0 0], .box [.c (prog_r v l)], .box [.o 3 0 R.length cp, .o 4 0 hs.length ch, .o 5 0 fs.length cf, .c (B g)], .arr 96 2 cp R, .arr 3 1 ch (hs.map fun z => [I z]), .arr 3 1 cf (fs.map fun z => [I z])]
abbrev prtG (l : List Step) (v : Value) (R : List (List CV)) (hs fs : List Int) (g : Bool) (cp ch cf : Nat) (A : Option Addr) (pts : List Pt) (c : Nat) (f : Int) : List OB := prtH l v (R ++ [[.s (.slice A pts.length c), B false]]) hs (fs ++ [f]) g cp ch cf ++ [.arr 145 2 c (pts.map Pt.row), .eqv (.o 6 0 pts.length c) (.slice A pts.length c)]
theorem printedO_a (l : List Step) (v : Value) (k : Nat) (s : Step) (hs' : l[k]? = some s) (hp : ¬ prints s) (a b : Mach) (R : List (List CV)) (hs fs : List Int) (g : Bool) (cp ch cf : Nat) :
    ACalls Try.prog 128 [.c (I k), .a (a.row.map .c), .a (b.row.map .c), .p 0 0 0, .p 1 0 0] (prtH l v R hs fs g cp ch cf) fun u H => u = .t [] ∧ H = prtH l v R hs fs (if stops s then false else g) cp ch cf := by
  have e1 : (l.map Step.row).length = l.length := by simp
  have hlt : k < l.length := (List.getElem?_eq_some_iff.1 hs').1
  have hrow : (l.map Step.row)[k]? = some s.row := by rw [List.getElem?_map, hs']; rfl
  refine acallsx_of false (N := 16) Try.func128 rfl rfl (by simp) fun E hE hP => ?_
  refine WA ?_
  refine ZZ ?_
  refine aw_regionT [(0, none), (1, none), (2, none), (3, none), (4, none), (5, none), (6, none), (7, some [])] hMixed (by kernel_rfl) ?_
  refine WP ?_
  refine at_ef rfl rfl (ef_call [2, 3, 4, 5] (fun _ => stpH R hs fs g cp ch cf) false (fun _ => stepO_a s hp a b R hs fs g cp ch cf) rfl .fn rfl (by decide) (by kernel_rfl) rfl ZCH (by decide) ZCG (by simp)) ?_
  rintro F1 H1 ⟨_, _, _, _, ⟨rfl, hq⟩, hF, hH⟩
  subst hq
  (try simp only [List.set_cons_zero, List.set_cons_succ, updH, posOf, lentArr, killF, killO, killV, AV.has, AV.hasL, AV.emb, AV.embL, OB.emb, embB, List.filter_cons, List.filter_nil, List.getElem?_cons_zero, List.getElem?_cons_succ, List.getD_cons_zero, List.getD_cons_succ, List.drop_succ_cons, List.drop_zero, List.drop_nil, List.contains_cons, List.contains_nil, Nat.reduceBEq, Nat.reduceEqDiff, beq_self_eq_true, Bool.or_false, Bool.false_or, Bool.or_true, Bool.true_or, Bool.false_eq_true, Option.map_some, Option.map_none, List.map_cons, List.map_nil, List.cons_append, List.nil_append, List.append_nil, List.length_cons, List.length_nil, Nat.reduceAdd, Nat.reduceLT, Nat.reduceSub, if_true, if_false, Nat.zero_add, Nat.add_zero, Nat.sub_zero, Nat.lt_irrefl, Nat.not_lt_zero, Nat.zero_lt_one, Nat.lt_add_one] at hF); (try simp only [List.set_cons_zero, List.set_cons_succ, updH, posOf, lentArr, killF, killO, killV, AV.has, AV.hasL, AV.emb, AV.embL, OB.emb, embB, List.filter_cons, List.filter_nil, List.getElem?_cons_zero, List.getElem?_cons_succ, List.getD_cons_zero, List.getD_cons_succ, List.drop_succ_cons, List.drop_zero, List.drop_nil, List.contains_cons, List.contains_nil, Nat.reduceBEq, Nat.reduceEqDiff, beq_self_eq_true, Bool.or_false, Bool.false_or, Bool.or_true, Bool.true_or, Bool.false_eq_true, Option.map_some, Option.map_none, List.map_cons, List.map_nil, List.cons_append, List.nil_append, List.append_nil, List.length_cons, List.length_nil, Nat.reduceAdd, Nat.reduceLT, Nat.reduceSub, if_true, if_false, Nat.zero_add, Nat.add_zero, Nat.sub_zero, Nat.lt_irrefl, Nat.not_lt_zero, Nat.zero_lt_one, Nat.lt_add_one] at hH); subst hF; subst hH
  refine ⟨ag_none, ?_⟩
  refine WQ ?_
  exact aret_0 [some 0, some 1, some 2, some 3, some 4, some 5] (fun _ => prtH l v R hs fs (if stops s then false else g) cp ch cf) (.inr rfl) rfl (by decide) (ZNL (n := 6) rfl) ZCG (fun _ => ⟨rfl, rfl⟩)
theorem printedN_a (l : List Step) (v : Value) (k : Nat) (s : Step) (hs' : l[k]? = some s) (hp : prints s) (hsg : s.good) (a b : Mach) (R : List (List CV)) (hR : ∀ r ∈ R, r.length = 2 ∧ ∀ u ∈ r, u.one = true) (hs fs : List Int) (cp ch cf : Nat) (h1 : R.length ≤ 1000000) (h2 : hs.length = R.length) (h3 : fs.length = R.length) :
    ACalls Try.prog 128 [.c (I k), .a (a.row.map .c), .a (b.row.map .c), .p 0 0 0, .p 1 0 0] (prtH l v R hs fs false cp ch cf) fun u H => ∃ cp' ch' cf' A c, u = .t [] ∧ H = prtG l v R (hs ++ [b.z]) fs true cp' ch' cf' A (addP [⟨a.x, a.y⟩] ⟨b.x, b.y⟩) c (0 + s.f) := by
  have e1 : (l.map Step.row).length = l.length := by simp
  have hlt : k < l.length := (List.getElem?_eq_some_iff.1 hs').1
  have hrow : (l.map Step.row)[k]? = some s.row := by rw [List.getElem?_map, hs']; rfl
  refine acallsx_of false (N := 16) Try.func128 rfl rfl (by simp) fun E hE hP => ?_
  refine WA ?_
  refine ZZ ?_
  refine aw_regionT [(0, none), (1, none), (2, none), (3, none), (4, none), (5, none), (6, none), (7, some [])] hMixed (by kernel_rfl) ?_
  refine WP ?_
  refine at_ef rfl rfl (ef_call [2, 3, 4, 5] (fun _ => stpH R hs fs false cp ch cf) false (fun _ => stepN_a s hp hsg a b R hR hs fs cp ch cf h1 h2 h3) rfl .fn rfl (by decide) (by kernel_rfl) rfl ZCH (by decide) ZCG (by simp)) ?_
  rintro F1 H1 ⟨_, _, _, _, ⟨cp', ch', cf', A, c, rfl, hq⟩, hF, hH⟩
  subst hq
  (try simp only [List.set_cons_zero, List.set_cons_succ, updH, posOf, lentArr, killF, killO, killV, AV.has, AV.hasL, AV.emb, AV.embL, OB.emb, embB, List.filter_cons, List.filter_nil, List.getElem?_cons_zero, List.getElem?_cons_succ, List.getD_cons_zero, List.getD_cons_succ, List.drop_succ_cons, List.drop_zero, List.drop_nil, List.contains_cons, List.contains_nil, Nat.reduceBEq, Nat.reduceEqDiff, beq_self_eq_true, Bool.or_false, Bool.false_or, Bool.or_true, Bool.true_or, Bool.false_eq_true, Option.map_some, Option.map_none, List.map_cons, List.map_nil, List.cons_append, List.nil_append, List.append_nil, List.length_cons, List.length_nil, Nat.reduceAdd, Nat.reduceLT, Nat.reduceSub, if_true, if_false, Nat.zero_add, Nat.add_zero, Nat.sub_zero, Nat.lt_irrefl, Nat.not_lt_zero, Nat.zero_lt_one, Nat.lt_add_one] at hF); (try simp only [List.set_cons_zero, List.set_cons_succ, updH, posOf, lentArr, killF, killO, killV, AV.has, AV.hasL, AV.emb, AV.embL, OB.emb, embB, List.filter_cons, List.filter_nil, List.getElem?_cons_zero, List.getElem?_cons_succ, List.getD_cons_zero, List.getD_cons_succ, List.drop_succ_cons, List.drop_zero, List.drop_nil, List.contains_cons, List.contains_nil, Nat.reduceBEq, Nat.reduceEqDiff, beq_self_eq_true, Bool.or_false, Bool.false_or, Bool.or_true, Bool.true_or, Bool.false_eq_true, Option.map_some, Option.map_none, List.map_cons, List.map_nil, List.cons_append, List.nil_append, List.append_nil, List.length_cons, List.length_nil, Nat.reduceAdd, Nat.reduceLT, Nat.reduceSub, if_true, if_false, Nat.zero_add, Nat.add_zero, Nat.sub_zero, Nat.lt_irrefl, Nat.not_lt_zero, Nat.zero_lt_one, Nat.lt_add_one] at hH); subst hF; subst hH
  refine ⟨ag_none, ?_⟩
  refine WQ ?_
  exact aret_0 [some 0, some 1, some 2, some 3, some 4, some 5, some 8, some 9] (fun _ => prtG l v R (hs ++ [b.z]) fs true cp' ch' cf' A (addP [⟨a.x, a.y⟩] ⟨b.x, b.y⟩) c (0 + s.f)) (.inr rfl) rfl (by decide) (ZNL (n := 6) rfl) ZCG (fun _ => ⟨_, _, _, _, _, rfl, rfl⟩)
theorem printedG_a (l : List Step) (v : Value) (k : Nat) (s : Step) (hs' : l[k]? = some s) (hp : prints s) (hsg : s.good) (a b : Mach) (R : List (List CV)) (hs fs : List Int) (cp ch cf : Nat) (A : Option Addr) (pts : List Pt) (c : Nat) (f : Int) (h1 : R.length ≤ 1000000) (h3 : fs.length = R.length) (hpl : 1 ≤ pts.length ∧ pts.length ≤ 1000000) (hfb : 0 ≤ f ∧ f ≤ 100000000000000000) :
    ACalls Try.prog 128 [.c (I k), .a (a.row.map .c), .a (b.row.map .c), .p 0 0 0, .p 1 0 0] (prtG l v R hs fs true cp ch cf A pts c f) fun u H => ∃ cp' ch' cf' A' c', u = .t [] ∧ H = prtG l v R hs fs true cp' ch' cf' A' (addP pts ⟨b.x, b.y⟩) c' (f + s.f) := by
  have e1 : (l.map Step.row).length = l.length := by simp
  have hlt : k < l.length := (List.getElem?_eq_some_iff.1 hs').1
  have hrow : (l.map Step.row)[k]? = some s.row := by rw [List.getElem?_map, hs']; rfl
  refine acallsx_of false (N := 16) Try.func128 rfl rfl (by simp) fun E hE hP => ?_
  refine WA ?_
  refine ZZ ?_
  refine aw_regionT [(0, none), (1, none), (2, none), (3, none), (4, none), (5, none), (6, none), (7, some [])] hMixed (by kernel_rfl) ?_
  refine WP ?_
  refine at_ef rfl rfl (ef_call [2, 3, 4, 5, 6, 7] (fun _ => stpG R hs fs true cp ch cf A pts c f) false (fun _ => stepG_a s hp hsg a b R hs fs cp ch cf A pts c f h1 h3 hpl hfb) rfl .fn rfl (by decide) (by kernel_rfl) rfl ZCH (by decide) ZCG (by simp)) ?_
  rintro F1 H1 ⟨_, _, _, _, ⟨cp', ch', cf', A', c', rfl, hq⟩, hF, hH⟩
  subst hq
  (try simp only [List.set_cons_zero, List.set_cons_succ, updH, posOf, lentArr, killF, killO, killV, AV.has, AV.hasL, AV.emb, AV.embL, OB.emb, embB, List.filter_cons, List.filter_nil, List.getElem?_cons_zero, List.getElem?_cons_succ, List.getD_cons_zero, List.getD_cons_succ, List.drop_succ_cons, List.drop_zero, List.drop_nil, List.contains_cons, List.contains_nil, Nat.reduceBEq, Nat.reduceEqDiff, beq_self_eq_true, Bool.or_false, Bool.false_or, Bool.or_true, Bool.true_or, Bool.false_eq_true, Option.map_some, Option.map_none, List.map_cons, List.map_nil, List.cons_append, List.nil_append, List.append_nil, List.length_cons, List.length_nil, Nat.reduceAdd, Nat.reduceLT, Nat.reduceSub, if_true, if_false, Nat.zero_add, Nat.add_zero, Nat.sub_zero, Nat.lt_irrefl, Nat.not_lt_zero, Nat.zero_lt_one, Nat.lt_add_one] at hF); (try simp only [List.set_cons_zero, List.set_cons_succ, updH, posOf, lentArr, killF, killO, killV, AV.has, AV.hasL, AV.emb, AV.embL, OB.emb, embB, List.filter_cons, List.filter_nil, List.getElem?_cons_zero, List.getElem?_cons_succ, List.getD_cons_zero, List.getD_cons_succ, List.drop_succ_cons, List.drop_zero, List.drop_nil, List.contains_cons, List.contains_nil, Nat.reduceBEq, Nat.reduceEqDiff, beq_self_eq_true, Bool.or_false, Bool.false_or, Bool.or_true, Bool.true_or, Bool.false_eq_true, Option.map_some, Option.map_none, List.map_cons, List.map_nil, List.cons_append, List.nil_append, List.append_nil, List.length_cons, List.length_nil, Nat.reduceAdd, Nat.reduceLT, Nat.reduceSub, if_true, if_false, Nat.zero_add, Nat.add_zero, Nat.sub_zero, Nat.lt_irrefl, Nat.not_lt_zero, Nat.zero_lt_one, Nat.lt_add_one] at hH); subst hF; subst hH
  refine ⟨ag_none, ?_⟩
  refine WQ ?_
  exact aret_0 [some 0, some 1, some 2, some 3, some 4, some 5, some 6, some 7] (fun _ => prtG l v R hs fs true cp' ch' cf' A' (addP pts ⟨b.x, b.y⟩) c' (f + s.f)) (.inr rfl) rfl (by decide) (ZNL (n := 8) rfl) ZCG (fun _ => ⟨_, _, _, _, _, rfl, rfl⟩)
structure Prt where
  ps : List (List Pt)
  hs : List Int
  fs : List Int
  go : Bool
def mapLast {α : Type} (f : α → α) (l : List α) : List α := match l.getLast? with
  | some x => l.dropLast ++ [f x]
  | none => []
theorem mapLast_snoc {α : Type} (f : α → α) (l : List α) (x : α) : mapLast f (l ++ [x]) = l ++ [f x] := by
  simp [mapLast]
def prtE (s : Step) (a b : Mach) (p : Prt) : Prt :=
  if prints s then
    if p.go = true then ⟨mapLast (fun q => addP q ⟨b.x, b.y⟩) p.ps, p.hs, mapLast (fun f => f + s.f) p.fs, true⟩
    else ⟨p.ps ++ [addP [⟨a.x, a.y⟩] ⟨b.x, b.y⟩], p.hs ++ [b.z], p.fs ++ [0 + s.f], true⟩
  else ⟨p.ps, p.hs, p.fs, if stops s then false else p.go⟩
def prtK (l : List Step) : Nat → Prt
  | 0 => ⟨[], [], [], false⟩
  | k + 1 => match l[k]? with
    | some s => prtE s (lastS (l.take k)) (lastS (l.take (k + 1))) (prtK l k)
    | none => prtK l k
theorem prtK_succ {l : List Step} {k : Nat} {s : Step} (h : l[k]? = some s) : prtK l (k + 1) = prtE s (lastS (l.take k)) (lastS (l.take (k + 1))) (prtK l k) := by simp only [prtK, h]
structure Prt.ok (p : Prt) (k : Nat) : Prop where
  l1 : p.hs.length = p.ps.length
  l2 : p.fs.length = p.ps.length
  l3 : p.ps.length ≤ k
  q : ∀ x ∈ p.ps, 1 ≤ x.length ∧ x.length ≤ k + 1
  f : ∀ x ∈ p.fs, 0 ≤ x ∧ x ≤ 100000000 * (k : Int)
  g : p.go = true → p.ps ≠ []
theorem snoc_of {α : Type} {l : List α} (h : l ≠ []) : ∃ i x, l = i ++ [x] := ⟨l.dropLast, l.getLast h, (List.dropLast_concat_getLast h).symm⟩
theorem prtE_ok {s : Step} {a b : Mach} {p : Prt} {k : Nat} (hs : s.good) (h : p.ok k) : (prtE s a b p).ok (k + 1) := by
  have hsf := hs.2.2.2.2.1
  obtain ⟨l1, l2, l3, q, f, g⟩ := h
  unfold prtE
  split
  · split
    · rename_i hg
      obtain ⟨ip, xp, hp⟩ := snoc_of (g hg)
      obtain ⟨jf, xf, hf⟩ := snoc_of (l := p.fs) (fun h => by rw [h, hp] at l2; simp at l2)
      rw [hp, hf] at l2
      rw [hp] at l1 l3
      simp only [List.length_append, List.length_singleton] at l1 l2 l3
      rw [hp, hf, mapLast_snoc, mapLast_snoc]
      refine ⟨by simp; omega, by simp; omega, by simp; omega, fun x hx => ?_, fun x hx => ?_, fun _ => by simp⟩
      · rcases List.mem_append.1 hx with hx | hx
        · have := q x (by rw [hp]; simp [hx]); omega
        · rw [List.mem_singleton.1 hx]
          have := q xp (by rw [hp]; simp)
          have := addP_len xp ⟨b.x, b.y⟩
          omega
      · rcases List.mem_append.1 hx with hx | hx
        · have := f x (by rw [hf]; simp [hx]); omega
        · rw [List.mem_singleton.1 hx]
          have := f xf (by rw [hf]; simp)
          omega
    · refine ⟨by simp; omega, by simp; omega, by simp; omega, fun x hx => ?_, fun x hx => ?_, fun _ => by simp⟩
      · rcases List.mem_append.1 hx with hx | hx
        · have := q x hx; omega
        · rw [List.mem_singleton.1 hx]
          have := addP_len [⟨a.x, a.y⟩] ⟨b.x, b.y⟩
          simp only [List.length_singleton] at this
          omega
      · rcases List.mem_append.1 hx with hx | hx
        · have := f x hx; omega
        · rw [List.mem_singleton.1 hx]; omega
  · refine ⟨l1, l2, by show p.ps.length ≤ k + 1; omega, fun x hx => ?_, fun x hx => ?_, fun hg => ?_⟩
    · have := q x hx; omega
    · have := f x hx; omega
    · dsimp only at hg
      split at hg
      · cases hg
      · exact g hg
theorem prtK_ok {l : List Step} (hg : ∀ s ∈ l, s.good) : ∀ k, (prtK l k).ok k
  | 0 => ⟨rfl, rfl, Nat.le_refl _, fun x h => by simp [prtK] at h, fun x h => by simp [prtK] at h, fun h => by simp [prtK] at h⟩
  | k + 1 => by
    rw [prtK]
    split
    · rename_i s hs
      exact prtE_ok (hg s (List.mem_of_getElem? hs)) (prtK_ok hg k)
    · obtain ⟨l1, l2, l3, q, f, g⟩ := prtK_ok hg k
      exact ⟨l1, l2, by omega, fun x hx => by have := q x hx; omega, fun x hx => by have := f x hx; omega, g⟩
end Go.Proofs.Ytpbedckdnoogpaa

/- What a program prints: the program's run, by value. -/
namespace Go.Proofs.Ytpbedckdnoogpaa
open Go Go.RowKit
set_option maxRecDepth 100000
-- NEWM
theorem rowP_ok (V : List PV) : ∀ r ∈ V.map rowP, r.length = 2 ∧ ∀ u ∈ r, u.one = true := fun r hr => by
  obtain ⟨p, -, rfl⟩ := List.mem_map.1 hr
  refine ⟨rfl, fun u hu => ?_⟩
  simp only [rowP, List.mem_cons, List.not_mem_nil, or_false] at hu
  rcases hu with rfl | rfl <;> rfl
abbrev runF (l : List Step) (v : Value) (k i j : Nat) : Fm := [(1, .f (.func 128) [.p 0 0 0, .p 1 0 0]), (4, .p i 0 0), (5, .p j 0 0), (9, .c (prog_r v l)), (10, .c (I (l.map Step.row).length)), (11, .c (I k))]
def PK0 (l : List Step) (v : Value) (k : Nat) (F : Fm) (H : List OB) : Prop := ∃ (V : List PV) (cp ch cf : Nat), V.map (·.2.2) = (prtK l k).ps ∧ F = runF l v k 6 7 ∧ H = prtH l v (V.map rowP) (prtK l k).hs (prtK l k).fs (prtK l k).go cp ch cf ++ [.box (Mach.zero.row.map .c), .box ((lastS (l.take k)).row.map .c)]
def PK1 (l : List Step) (v : Value) (k : Nat) (F : Fm) (H : List OB) : Prop := ∃ (V : List PV) (cp ch cf : Nat) (A : Option Addr) (c : Nat) (pts : List Pt) (fs : List Int) (f : Int), V.map (·.2.2) ++ [pts] = (prtK l k).ps ∧ fs ++ [f] = (prtK l k).fs ∧ F = runF l v k 8 9 ∧
  H = prtG l v (V.map rowP) (prtK l k).hs fs (prtK l k).go cp ch cf A pts c f ++ [.box (Mach.zero.row.map .c), .box ((lastS (l.take k)).row.map .c)]
set_option maxHeartbeats 4000000 in
theorem runPrt_a (l : List Step) (v : Value) (hl : l.length ≤ 5000) (hg : ∀ s ∈ l, s.good) (hok : ∀ s ∈ l, s.ok) : ACalls Try.prog 92 [.c (prog_r v l), .f (.func 128) [.p 0 0 0, .p 1 0 0]] (prtH l v [] [] [] false 0 0 0) fun u H => ∃ (V : List PV) (cp ch cf : Nat), u = .a ((lastS l).row.map .c) ∧ V.map (·.2.2) = (prtK l l.length).ps ∧ H = prtH l v (V.map rowP) (prtK l l.length).hs (prtK l l.length).fs (prtK l l.length).go cp ch cf := by
  have e1 : (l.map Step.row).length = l.length := by simp
  refine acallsx_of false (N := 27) Try.func92 rfl rfl (by simp) fun E hE hP => ?_
  refine WA ?_
  refine WA ?_
  refine WA ?_
  refine aw_loopw (fun n F H => ∃ k : Nat, n + k = l.length ∧ ((PK0 l v k F H ∧ (prtK l k).go = false) ∨ PK1 l v k F H)) ?_ ?_
  · refine wk_of [some 0, some 1, some 2, some 3, some 4, some 5, some 6, some 7] (fun _ => runF l v 0 6 7) (fun _ => prtH l v [] [] [] false 0 0 0 ++ [.box (Mach.zero.row.map .c), .box ((lastS (l.take 0)).row.map .c)]) (by decide) (ZNL hE) ZCF ZCG (fun _ => ?_)
    exact ⟨l.length, 0, by omega, .inl ⟨⟨[], 0, 0, 0, rfl, rfl, rfl⟩, rfl⟩⟩
  rintro n F H ⟨k, hk, hJ⟩
  refine aw_wk (K := fun F H => (PK0 l v k F H ∧ ((prtK l k).go = false ∨ l.length ≤ k)) ∨ (PK1 l v k F H ∧ k < l.length ∧ ∀ s, l[k]? = some s → prints s → (prtK l k).go = true)) ?_ ?_
  · rcases hJ with ⟨h0, hgo⟩ | h1
    · exact wk_id (.inl ⟨h0, .inl hgo⟩)
    · by_cases hb : k < l.length ∧ ∀ s, l[k]? = some s → prints s → (prtK l k).go = true
      · exact wk_id (.inr ⟨h1, hb⟩)
      · have hor : (prtK l k).go = false ∨ l.length ≤ k := by
          by_cases hk2 : k < l.length
          · left
            cases hgo : (prtK l k).go with
            | false => rfl
            | true => exact absurd ⟨hk2, fun _ _ _ => hgo⟩ hb
          · right; omega
        obtain ⟨V, cp, ch, cf, A, c, pts, fs, f, hps, hfs, rfl, rfl⟩ := h1
        refine wk_of [some 0, some 1, some 2, some 3, some 4, some 5, some 8, some 9] (fun _ => runF l v k 6 7) (fun _ => prtH l v (V.map rowP ++ [rowP (A, c, pts)]) (prtK l k).hs (fs ++ [f]) (prtK l k).go cp ch cf ++ [.box (Mach.zero.row.map .c), .box ((lastS (l.take k)).row.map .c)]) (by decide) (ZNL hE) ZCF (fun g => ?_) (fun _ => .inl ⟨⟨V ++ [(A, c, pts)], cp, ch, cf, by rw [List.map_append, ← hps]; rfl, rfl, by rw [List.map_append, ← hfs]; rfl⟩, hor⟩)
        refine .box rfl (.cons (.p rfl) .nil) (.box rfl (C0 rfl) (.box rfl (.cons (.o rfl (by simp)) (.cons (.o rfl rfl) (.cons (.o rfl rfl) (.cons (.c rfl) .nil)))) (.arrz rfl (.last (.cons (.frz (q := 7) rfl (.frz rfl rfl (by rw [List.drop_zero, List.take_of_length_le (by simp)]) (by simp) rfl)) (.cons (.same _) .nil))) (.arr rfl rfl (.arr rfl rfl (.box rfl (C0 rfl) (.box rfl (C0 rfl) .nil)))))))
  rintro F H (⟨h0, hgo⟩ | ⟨h1, hlt, hgo⟩)
  · obtain ⟨V, cp, ch, cf, hps, rfl, rfl⟩ := h0
    refine WA ?_
    refine aw_if rfl (fun hlt => ?_) (fun hge => ?_)
    · obtain ⟨s, hs'⟩ : ∃ s, l[k]? = some s := ⟨_, List.getElem?_eq_getElem (by omega)⟩
      have hrow : (l.map Step.row)[k]? = some s.row := by rw [List.getElem?_map, hs']; rfl
      have hso := hok s (List.mem_of_getElem? hs')
      have hsg := hg s (List.mem_of_getElem? hs')
      have hK := prtK_succ hs'
      rw [lastS_succ hs'] at hK
      have hgo : (prtK l k).go = false := by rcases hgo with h | h <;> first | exact h | omega
      have hko := prtK_ok hg k
      have hvl : (V.map rowP).length = (prtK l k).ps.length := by rw [← hps]; simp
      by_cases hp : prints s
      · have hK2 : prtK l (k + 1) = ⟨(prtK l k).ps ++ [addP [⟨(lastS (l.take k)).x, (lastS (l.take k)).y⟩] ⟨(afterS (lastS (l.take k)) s).x, (afterS (lastS (l.take k)) s).y⟩], (prtK l k).hs ++ [(afterS (lastS (l.take k)) s).z], (prtK l k).fs ++ [0 + s.f], true⟩ := by rw [hK, prtE, if_pos hp, if_neg (by rw [hgo]; decide)]
        have h1 : (V.map rowP).length ≤ 1000000 := by have := hko.l3; omega
        have h2 : (prtK l k).hs.length = (V.map rowP).length := by rw [hvl, hko.l1]
        have h3 : (prtK l k).fs.length = (V.map rowP).length := by rw [hvl, hko.l2]
        rw [hgo]
        refine WA ?_
        refine WA ?_
        refine WR ?_
        refine al_ef rfl (ef_call0 false (fun _ => after_a (lastS (l.take k)) s hso) rfl .fn rfl (by decide) (by kernel_rfl) rfl (fun _ => C0 rfl) (by simp)) ?_
        rintro _ _ ⟨_, _, _, ⟨rfl, rfl⟩, hF, hH⟩
        (try simp only [nsl, Nat.reduceAdd, Nat.reduceLT, Nat.reduceSub] at hF); (try simp only [nsl, Nat.reduceAdd, Nat.reduceLT, Nat.reduceSub] at hH); subst hF; subst hH
        refine WE ?_
        refine WR ?_
        refine al_ef rfl (ef_call [0, 1, 2, 3, 4, 5] (fun _ => prtH l v (V.map rowP) (prtK l k).hs (prtK l k).fs false cp ch cf) false (fun _ => printedN_a l v k s hs' hp hsg (lastS (l.take k)) (afterS (lastS (l.take k)) s) (V.map rowP) (rowP_ok V) (prtK l k).hs (prtK l k).fs cp ch cf h1 h2 h3) rfl (.clo rfl) rfl (by decide) (by kernel_rfl) rfl ZCH (by decide) ZCG (by simp)) ?_
        rintro F1 H1 ⟨_, _, _, _, ⟨cp', ch', cf', A, c, rfl, hq⟩, hF, hH⟩
        subst hq
        (try simp only [List.set_cons_zero, List.set_cons_succ, updH, posOf, lentArr, killF, killO, killV, AV.has, AV.hasL, AV.emb, AV.embL, OB.emb, embB, List.filter_cons, List.filter_nil, List.getElem?_cons_zero, List.getElem?_cons_succ, List.getD_cons_zero, List.getD_cons_succ, List.drop_succ_cons, List.drop_zero, List.drop_nil, List.contains_cons, List.contains_nil, Nat.reduceBEq, Nat.reduceEqDiff, beq_self_eq_true, Bool.or_false, Bool.false_or, Bool.or_true, Bool.true_or, Bool.false_eq_true, Option.map_some, Option.map_none, List.map_cons, List.map_nil, List.cons_append, List.nil_append, List.append_nil, List.length_cons, List.length_nil, Nat.reduceAdd, Nat.reduceLT, Nat.reduceSub, if_true, if_false, Nat.zero_add, Nat.add_zero, Nat.sub_zero, Nat.lt_irrefl, Nat.not_lt_zero, Nat.zero_lt_one, Nat.lt_add_one] at hF); (try simp only [List.set_cons_zero, List.set_cons_succ, updH, posOf, lentArr, killF, killO, killV, AV.has, AV.hasL, AV.emb, AV.embL, OB.emb, embB, List.filter_cons, List.filter_nil, List.getElem?_cons_zero, List.getElem?_cons_succ, List.getD_cons_zero, List.getD_cons_succ, List.drop_succ_cons, List.drop_zero, List.drop_nil, List.contains_cons, List.contains_nil, Nat.reduceBEq, Nat.reduceEqDiff, beq_self_eq_true, Bool.or_false, Bool.false_or, Bool.or_true, Bool.true_or, Bool.false_eq_true, Option.map_some, Option.map_none, List.map_cons, List.map_nil, List.cons_append, List.nil_append, List.append_nil, List.length_cons, List.length_nil, Nat.reduceAdd, Nat.reduceLT, Nat.reduceSub, if_true, if_false, Nat.zero_add, Nat.add_zero, Nat.sub_zero, Nat.lt_irrefl, Nat.not_lt_zero, Nat.zero_lt_one, Nat.lt_add_one] at hH); subst hF; subst hH
        refine WE ?_
        refine WA ?_
        refine wk_of [some 0, some 1, some 2, some 3, some 4, some 5, some 10, some 11, some 6, some 7] (fun _ => runF l v (k + 1) 8 9) (fun _ => prtG l v (V.map rowP) ((prtK l k).hs ++ [(afterS (lastS (l.take k)) s).z]) (prtK l k).fs true cp' ch' cf' A (addP [⟨(lastS (l.take k)).x, (lastS (l.take k)).y⟩] ⟨(afterS (lastS (l.take k)) s).x, (afterS (lastS (l.take k)) s).y⟩) c (0 + s.f) ++ [.box (Mach.zero.row.map .c), .box ((afterS (lastS (l.take k)) s).row.map .c)]) (by decide) (ZNL hE) ZCF ZCG (fun _ => ?_)
        exact ⟨n - 1, by omega, k + 1, by omega, .inr ⟨V, cp', ch', cf', A, c, _, (prtK l k).fs, 0 + s.f, by rw [hK2, hps], by rw [hK2], rfl, by rw [hK2, lastS_succ hs']⟩⟩
      · have hK2 : prtK l (k + 1) = ⟨(prtK l k).ps, (prtK l k).hs, (prtK l k).fs, if stops s then false else (prtK l k).go⟩ := by rw [hK, prtE, if_neg hp]
        refine WA ?_
        refine WA ?_
        refine WR ?_
        refine al_ef rfl (ef_call0 false (fun _ => after_a (lastS (l.take k)) s hso) rfl .fn rfl (by decide) (by kernel_rfl) rfl (fun _ => C0 rfl) (by simp)) ?_
        rintro _ _ ⟨_, _, _, ⟨rfl, rfl⟩, hF, hH⟩
        (try simp only [nsl, Nat.reduceAdd, Nat.reduceLT, Nat.reduceSub] at hF); (try simp only [nsl, Nat.reduceAdd, Nat.reduceLT, Nat.reduceSub] at hH); subst hF; subst hH
        refine WE ?_
        refine WR ?_
        refine al_ef rfl (ef_call [0, 1, 2, 3, 4, 5] (fun _ => prtH l v (V.map rowP) (prtK l k).hs (prtK l k).fs (prtK l k).go cp ch cf) false (fun _ => printedO_a l v k s hs' hp (lastS (l.take k)) (afterS (lastS (l.take k)) s) (V.map rowP) (prtK l k).hs (prtK l k).fs (prtK l k).go cp ch cf) rfl (.clo rfl) rfl (by decide) (by kernel_rfl) rfl ZCH (by decide) ZCG (by simp)) ?_
        rintro F1 H1 ⟨_, _, _, _, ⟨rfl, hq⟩, hF, hH⟩
        subst hq
        (try simp only [List.set_cons_zero, List.set_cons_succ, updH, posOf, lentArr, killF, killO, killV, AV.has, AV.hasL, AV.emb, AV.embL, OB.emb, embB, List.filter_cons, List.filter_nil, List.getElem?_cons_zero, List.getElem?_cons_succ, List.getD_cons_zero, List.getD_cons_succ, List.drop_succ_cons, List.drop_zero, List.drop_nil, List.contains_cons, List.contains_nil, Nat.reduceBEq, Nat.reduceEqDiff, beq_self_eq_true, Bool.or_false, Bool.false_or, Bool.or_true, Bool.true_or, Bool.false_eq_true, Option.map_some, Option.map_none, List.map_cons, List.map_nil, List.cons_append, List.nil_append, List.append_nil, List.length_cons, List.length_nil, Nat.reduceAdd, Nat.reduceLT, Nat.reduceSub, if_true, if_false, Nat.zero_add, Nat.add_zero, Nat.sub_zero, Nat.lt_irrefl, Nat.not_lt_zero, Nat.zero_lt_one, Nat.lt_add_one] at hF); (try simp only [List.set_cons_zero, List.set_cons_succ, updH, posOf, lentArr, killF, killO, killV, AV.has, AV.hasL, AV.emb, AV.embL, OB.emb, embB, List.filter_cons, List.filter_nil, List.getElem?_cons_zero, List.getElem?_cons_succ, List.getD_cons_zero, List.getD_cons_succ, List.drop_succ_cons, List.drop_zero, List.drop_nil, List.contains_cons, List.contains_nil, Nat.reduceBEq, Nat.reduceEqDiff, beq_self_eq_true, Bool.or_false, Bool.false_or, Bool.or_true, Bool.true_or, Bool.false_eq_true, Option.map_some, Option.map_none, List.map_cons, List.map_nil, List.cons_append, List.nil_append, List.append_nil, List.length_cons, List.length_nil, Nat.reduceAdd, Nat.reduceLT, Nat.reduceSub, if_true, if_false, Nat.zero_add, Nat.add_zero, Nat.sub_zero, Nat.lt_irrefl, Nat.not_lt_zero, Nat.zero_lt_one, Nat.lt_add_one] at hH); subst hF; subst hH
        refine WE ?_
        refine WA ?_
        refine wk_of [some 0, some 1, some 2, some 3, some 4, some 5, some 6, some 7] (fun _ => runF l v (k + 1) 6 7) (fun _ => prtH l v (V.map rowP) (prtK l k).hs (prtK l k).fs (if stops s then false else (prtK l k).go) cp ch cf ++ [.box (Mach.zero.row.map .c), .box ((afterS (lastS (l.take k)) s).row.map .c)]) (by decide) (ZNL hE) ZCF ZCG (fun _ => ?_)
        exact ⟨n - 1, by omega, k + 1, by omega, .inl ⟨⟨V, cp, ch, cf, by rw [hK2, hps], rfl, by rw [hK2, lastS_succ hs']⟩, by rw [hK2]; dsimp only; split <;> first | rfl | exact hgo⟩⟩
    · refine WA ?_
      obtain rfl : k = l.length := by omega
      refine aret_a [some 0, some 1, some 2, some 3, some 4, some 5] (prtH l v (V.map rowP) (prtK l l.length).hs (prtK l l.length).fs (prtK l l.length).go cp ch cf) rfl (KK (t := 42) rfl) rfl (Cells.box rfl) (by simp) (by (try simp only [nm, putL, Nat.reduceAdd, cellsOf, cvOf]) <;> rfl) (by decide) (ZNL (n := 6) rfl) (fun _ => C0 rfl) ZCG ⟨V, cp, ch, cf, ?_, hps, rfl⟩
      rw [List.take_of_length_le (by omega)]; rfl
  · obtain ⟨V, cp, ch, cf, A, c, pts, fs, f, hps, hfs, rfl, rfl⟩ := h1
    refine WA ?_
    refine aw_cond_t rfl ?_
    obtain ⟨s, hs'⟩ : ∃ s, l[k]? = some s := ⟨_, List.getElem?_eq_getElem (by omega)⟩
    have hrow : (l.map Step.row)[k]? = some s.row := by rw [List.getElem?_map, hs']; rfl
    have hso := hok s (List.mem_of_getElem? hs')
    have hsg := hg s (List.mem_of_getElem? hs')
    have hK := prtK_succ hs'
    rw [lastS_succ hs'] at hK
    have hko := prtK_ok hg k
    have hvl : (V.map rowP).length + 1 = (prtK l k).ps.length := by rw [← hps]; simp
    by_cases hp : prints s
    · have hgo2 := hgo s hs' hp
      have hK2 : prtK l (k + 1) = ⟨V.map (·.2.2) ++ [addP pts ⟨(afterS (lastS (l.take k)) s).x, (afterS (lastS (l.take k)) s).y⟩], (prtK l k).hs, fs ++ [f + s.f], true⟩ := by rw [hK, prtE, if_pos hp, if_pos hgo2, ← hps, ← hfs, mapLast_snoc, mapLast_snoc]
      have h1 : (V.map rowP).length ≤ 1000000 := by have := hko.l3; omega
      have h3 : fs.length = (V.map rowP).length := by have := hko.l2; rw [← hfs, ← hps] at this; simpa using this
      have hpl : 1 ≤ pts.length ∧ pts.length ≤ 1000000 := by have := hko.q pts (by rw [← hps]; simp); omega
      have hfb : 0 ≤ f ∧ f ≤ 100000000000000000 := by have := hko.f f (by rw [← hfs]; simp); omega
      rw [hgo2]
      refine WA ?_
      refine WA ?_
      refine WR ?_
      refine al_ef rfl (ef_call0 false (fun _ => after_a (lastS (l.take k)) s hso) rfl .fn rfl (by decide) (by kernel_rfl) rfl (fun _ => C0 rfl) (by simp)) ?_
      rintro _ _ ⟨_, _, _, ⟨rfl, rfl⟩, hF, hH⟩
      (try simp only [nsl, Nat.reduceAdd, Nat.reduceLT, Nat.reduceSub] at hF); (try simp only [nsl, Nat.reduceAdd, Nat.reduceLT, Nat.reduceSub] at hH); subst hF; subst hH
      refine WE ?_
      refine WR ?_
      refine al_ef rfl (ef_call [0, 1, 2, 3, 4, 5, 6, 7] (fun _ => prtG l v (V.map rowP) (prtK l k).hs fs true cp ch cf A pts c f) false (fun _ => printedG_a l v k s hs' hp hsg (lastS (l.take k)) (afterS (lastS (l.take k)) s) (V.map rowP) (prtK l k).hs fs cp ch cf A pts c f h1 h3 hpl hfb) rfl (.clo rfl) rfl (by decide) (by kernel_rfl) rfl ZCH (by decide) ZCG (by simp)) ?_
      rintro F1 H1 ⟨_, _, _, _, ⟨cp', ch', cf', A', c', rfl, hq⟩, hF, hH⟩
      subst hq
      (try simp only [List.set_cons_zero, List.set_cons_succ, updH, posOf, lentArr, killF, killO, killV, AV.has, AV.hasL, AV.emb, AV.embL, OB.emb, embB, List.filter_cons, List.filter_nil, List.getElem?_cons_zero, List.getElem?_cons_succ, List.getD_cons_zero, List.getD_cons_succ, List.drop_succ_cons, List.drop_zero, List.drop_nil, List.contains_cons, List.contains_nil, Nat.reduceBEq, Nat.reduceEqDiff, beq_self_eq_true, Bool.or_false, Bool.false_or, Bool.or_true, Bool.true_or, Bool.false_eq_true, Option.map_some, Option.map_none, List.map_cons, List.map_nil, List.cons_append, List.nil_append, List.append_nil, List.length_cons, List.length_nil, Nat.reduceAdd, Nat.reduceLT, Nat.reduceSub, if_true, if_false, Nat.zero_add, Nat.add_zero, Nat.sub_zero, Nat.lt_irrefl, Nat.not_lt_zero, Nat.zero_lt_one, Nat.lt_add_one] at hF); (try simp only [List.set_cons_zero, List.set_cons_succ, updH, posOf, lentArr, killF, killO, killV, AV.has, AV.hasL, AV.emb, AV.embL, OB.emb, embB, List.filter_cons, List.filter_nil, List.getElem?_cons_zero, List.getElem?_cons_succ, List.getD_cons_zero, List.getD_cons_succ, List.drop_succ_cons, List.drop_zero, List.drop_nil, List.contains_cons, List.contains_nil, Nat.reduceBEq, Nat.reduceEqDiff, beq_self_eq_true, Bool.or_false, Bool.false_or, Bool.or_true, Bool.true_or, Bool.false_eq_true, Option.map_some, Option.map_none, List.map_cons, List.map_nil, List.cons_append, List.nil_append, List.append_nil, List.length_cons, List.length_nil, Nat.reduceAdd, Nat.reduceLT, Nat.reduceSub, if_true, if_false, Nat.zero_add, Nat.add_zero, Nat.sub_zero, Nat.lt_irrefl, Nat.not_lt_zero, Nat.zero_lt_one, Nat.lt_add_one] at hH); subst hF; subst hH
      refine WE ?_
      refine WA ?_
      refine wk_of [some 0, some 1, some 2, some 3, some 4, some 5, some 6, some 7, some 8, some 9] (fun _ => runF l v (k + 1) 8 9) (fun _ => prtG l v (V.map rowP) (prtK l k).hs fs true cp' ch' cf' A' (addP pts ⟨(afterS (lastS (l.take k)) s).x, (afterS (lastS (l.take k)) s).y⟩) c' (f + s.f) ++ [.box (Mach.zero.row.map .c), .box ((afterS (lastS (l.take k)) s).row.map .c)]) (by decide) (ZNL hE) ZCF ZCG (fun _ => ?_)
      exact ⟨n - 1, by omega, k + 1, by omega, .inr ⟨V, cp', ch', cf', A', c', _, fs, f + s.f, by rw [hK2], by rw [hK2], rfl, by rw [hK2, lastS_succ hs']⟩⟩
    · have hK2 : prtK l (k + 1) = ⟨(prtK l k).ps, (prtK l k).hs, (prtK l k).fs, if stops s then false else (prtK l k).go⟩ := by rw [hK, prtE, if_neg hp]
      refine WA ?_
      refine WA ?_
      refine WR ?_
      refine al_ef rfl (ef_call0 false (fun _ => after_a (lastS (l.take k)) s hso) rfl .fn rfl (by decide) (by kernel_rfl) rfl (fun _ => C0 rfl) (by simp)) ?_
      rintro _ _ ⟨_, _, _, ⟨rfl, rfl⟩, hF, hH⟩
      (try simp only [nsl, Nat.reduceAdd, Nat.reduceLT, Nat.reduceSub] at hF); (try simp only [nsl, Nat.reduceAdd, Nat.reduceLT, Nat.reduceSub] at hH); subst hF; subst hH
      refine WE ?_
      refine WR ?_
      refine al_ef rfl (ef_call [0, 1, 2, 3, 4, 5] (fun _ => prtH l v (V.map rowP ++ [[.s (.slice A pts.length c), B false]]) (prtK l k).hs (fs ++ [f]) (prtK l k).go cp ch cf) false (fun _ => printedO_a l v k s hs' hp (lastS (l.take k)) (afterS (lastS (l.take k)) s) (V.map rowP ++ [[.s (.slice A pts.length c), B false]]) (prtK l k).hs (fs ++ [f]) (prtK l k).go cp ch cf) rfl (.clo rfl) rfl (by decide) (by kernel_rfl) rfl ZCH (by decide) ZCG (by simp)) ?_
      rintro F1 H1 ⟨_, _, _, _, ⟨rfl, hq⟩, hF, hH⟩
      subst hq
      (try simp only [List.set_cons_zero, List.set_cons_succ, updH, posOf, lentArr, killF, killO, killV, AV.has, AV.hasL, AV.emb, AV.embL, OB.emb, embB, List.filter_cons, List.filter_nil, List.getElem?_cons_zero, List.getElem?_cons_succ, List.getD_cons_zero, List.getD_cons_succ, List.drop_succ_cons, List.drop_zero, List.drop_nil, List.contains_cons, List.contains_nil, Nat.reduceBEq, Nat.reduceEqDiff, beq_self_eq_true, Bool.or_false, Bool.false_or, Bool.or_true, Bool.true_or, Bool.false_eq_true, Option.map_some, Option.map_none, List.map_cons, List.map_nil, List.cons_append, List.nil_append, List.append_nil, List.length_cons, List.length_nil, Nat.reduceAdd, Nat.reduceLT, Nat.reduceSub, if_true, if_false, Nat.zero_add, Nat.add_zero, Nat.sub_zero, Nat.lt_irrefl, Nat.not_lt_zero, Nat.zero_lt_one, Nat.lt_add_one] at hF); (try simp only [List.set_cons_zero, List.set_cons_succ, updH, posOf, lentArr, killF, killO, killV, AV.has, AV.hasL, AV.emb, AV.embL, OB.emb, embB, List.filter_cons, List.filter_nil, List.getElem?_cons_zero, List.getElem?_cons_succ, List.getD_cons_zero, List.getD_cons_succ, List.drop_succ_cons, List.drop_zero, List.drop_nil, List.contains_cons, List.contains_nil, Nat.reduceBEq, Nat.reduceEqDiff, beq_self_eq_true, Bool.or_false, Bool.false_or, Bool.or_true, Bool.true_or, Bool.false_eq_true, Option.map_some, Option.map_none, List.map_cons, List.map_nil, List.cons_append, List.nil_append, List.append_nil, List.length_cons, List.length_nil, Nat.reduceAdd, Nat.reduceLT, Nat.reduceSub, if_true, if_false, Nat.zero_add, Nat.add_zero, Nat.sub_zero, Nat.lt_irrefl, Nat.not_lt_zero, Nat.zero_lt_one, Nat.lt_add_one] at hH); subst hF; subst hH
      refine WE ?_
      refine WA ?_
      refine wk_of [some 0, some 1, some 2, some 3, some 4, some 5, some 6, some 7, some 8, some 9] (fun _ => runF l v (k + 1) 8 9) (fun _ => prtG l v (V.map rowP) (prtK l k).hs fs (if stops s then false else (prtK l k).go) cp ch cf A pts c f ++ [.box (Mach.zero.row.map .c), .box ((afterS (lastS (l.take k)) s).row.map .c)]) (by decide) (ZNL hE) ZCF ZCG (fun _ => ?_)
      exact ⟨n - 1, by omega, k + 1, by omega, .inr ⟨V, cp, ch, cf, A, c, pts, fs, f, by rw [hK2, hps], by rw [hK2, hfs], rfl, by rw [hK2, lastS_succ hs']⟩⟩
end Go.Proofs.Ytpbedckdnoogpaa

/- Faults and sameness of paths, by value. -/
namespace Go.Proofs.Ytpbedckdnoogpaa
open Go Go.RowKit
set_option maxRecDepth 100000
-- NEWM
def firstP : List (List Pt) → Int
  | [] => 0
  | q :: l => if ptsF q false ≠ 0 then ptsF q false else firstP l
def pathsF (l : List (List Pt)) : Int := if 200 < l.length then 2 else firstP l
theorem firstP_drop {V : List PV} {k : Nat} {p : PV} (h : V[k]? = some p) : firstP ((V.drop k).map (·.2.2)) = if ptsF p.2.2 false ≠ 0 then ptsF p.2.2 false else firstP ((V.drop (k + 1)).map (·.2.2)) := by
  rw [drop_consk h]; rfl
theorem rpathfault_a (l : List Pt) (v : Value) (hl : l.length ≤ 1000000) : ACalls Try.prog 171 [pth v l false] [] fun u H => u = .c (I (ptsF l false)) ∧ H = [] := by
  have e1 : (l.map Pt.row).length = l.length := by simp
  refine acalls_of (N := 25) Try.func171 rfl rfl (by simp) fun E hE => ?_
  refine WA ?_
  refine WA ?_
  refine aw_if rfl (fun h0 => ?_) (fun h0 => ?_)
  · refine WA ?_
    exact aret_1 [] _ rfl rfl rfl (by decide) (ZNK rfl) (fun _ => .nil) ⟨by rw [ptsF, if_pos (by omega)], rfl⟩
  refine ZZ ?_
  refine WA ?_
  refine aw_if rfl (fun h1 => ?_) (fun h1 => ?_)
  · refine WA ?_
    exact aret_1 [] _ rfl rfl rfl (by decide) (ZNK rfl) (fun _ => .nil) ⟨by rw [ptsF, if_neg (by omega), if_pos (by omega)], rfl⟩
  refine ZZ ?_
  refine WA ?_
  refine aw_cond_f rfl ?_
  refine ZZ ?_
  have hF' : ptsF l false = if l.any Pt.far = true then 1 else 0 := by rw [ptsF, if_neg (by omega), if_neg (by omega), if_neg (by simp)]
  refine WR ?_
  refine al_ef rfl (ef_call0 false (fun _ => pointfault_a l v (by omega)) rfl .fn rfl (by decide) (by kernel_rfl) rfl (fun _ => C0 rfl) (by simp)) ?_
  rintro _ _ ⟨_, _, _, ⟨rfl, rfl⟩, hF, hH⟩
  (try simp only [nsl, Nat.reduceAdd, Nat.reduceLT, Nat.reduceSub] at hF); (try simp only [nsl, Nat.reduceAdd, Nat.reduceLT, Nat.reduceSub] at hH); subst hF; subst hH
  refine WE ?_
  exact aret_1 [] _ rfl rfl rfl (by decide) (ZNK rfl) (fun _ => .nil) ⟨by rw [hF'], rfl⟩
theorem checkpaths_a (V : List PV) (v : Value) (hl : V.length ≤ 1000000) (hq : ∀ p ∈ V, p.2.2.length ≤ 1000000) : ACalls Try.prog 130 [.c (.r v (V.map rowP))] [] fun u H => u = .c (I (pathsF (V.map (·.2.2)))) ∧ H = [] := by
  have e1 : (V.map rowP).length = V.length := by simp
  have e2 : (V.map (·.2.2)).length = V.length := by simp
  refine acalls_of (N := 21) Try.func130 rfl rfl (by simp) fun E hE => ?_
  refine WA ?_
  refine WA ?_
  refine aw_if rfl (fun hbig => ?_) (fun hbig => ?_)
  · refine WA ?_
    refine aret_1 [] _ rfl rfl rfl (by decide) (ZNK rfl) (fun _ => .nil) ⟨?_, rfl⟩
    rw [pathsF, if_pos (by omega)]
  refine ZZ ?_
  refine WA ?_
  refine aw_loopw (fun m F H => ∃ (k : Nat), m + k = V.length ∧ firstP ((V.drop k).map (·.2.2)) = firstP (V.map (·.2.2)) ∧ F = [(9, .c (.r v (V.map rowP))), (10, .c (I (V.map rowP).length)), (11, .c (I k))] ∧ H = []) ?_ ?_
  · refine wk_of [] (fun _ => [(9, .c (.r v (V.map rowP))), (10, .c (I (V.map rowP).length)), (11, .c (I (0 : Nat)))]) (fun _ => _) (by decide) (ZNL hE) ZCF (fun _ => .nil) (fun _ => ?_)
    exact ⟨V.length, 0, by omega, rfl, rfl, rfl⟩
  rintro m F H ⟨k, hk, hf, rfl, rfl⟩
  refine WA ?_
  refine aw_if rfl (fun hlt => ?_) (fun hge => ?_)
  · obtain ⟨p, hs⟩ : ∃ s, V[k]? = some s := ⟨_, List.getElem?_eq_getElem (by omega)⟩
    have hrow : (V.map rowP)[k]? = some (rowP p) := by rw [List.getElem?_map, hs]; rfl
    have hfd := firstP_drop hs
    have hql := hq p (List.mem_of_getElem? hs)
    refine WA ?_
    refine WR ?_
    refine al_ef rfl (ef_call0 false (fun _ => pathfault_a p.2.2 _ false) rfl .fn rfl (by decide) (by kernel_rfl) rfl (fun _ => C0 rfl) (by simp)) ?_
    rintro _ _ ⟨_, _, _, ⟨rfl, rfl⟩, hF, hH⟩
    (try simp only [nsl, Nat.reduceAdd, Nat.reduceLT, Nat.reduceSub] at hF); (try simp only [nsl, Nat.reduceAdd, Nat.reduceLT, Nat.reduceSub] at hH); subst hF; subst hH
    refine WE ?_
    refine WA ?_
    refine aw_if rfl (fun hne => ?_) (fun heq => ?_)
    · refine WA ?_
      refine aret_1 [] _ rfl rfl rfl (by decide) (ZNK rfl) (fun _ => .nil) ⟨?_, rfl⟩
      rw [pathsF, if_neg (by omega), ← hf, hfd, if_pos hne]
    · refine ZZ ?_
      refine WA ?_
      refine wk_of [] (fun _ => [(9, .c (.r v (V.map rowP))), (10, .c (I (V.map rowP).length)), (11, .c (I (k + 1 : Nat)))]) (fun _ => _) (by decide) (ZNL hE) ZCF (fun _ => .nil) (fun _ => ?_)
      exact ⟨m - 1, by omega, k + 1, by omega, by rw [← hf, hfd, if_neg heq], rfl, rfl⟩
  refine WA ?_
  refine aret_1 [] _ rfl rfl rfl (by decide) (ZNK rfl) (fun _ => .nil) ⟨?_, rfl⟩
  rw [pathsF, if_neg (by omega), ← hf, List.drop_eq_nil_of_le (by omega)]; rfl
theorem pathsfault_a (V : List PV) (v : Value) (hl : V.length ≤ 1000000) (hq : ∀ p ∈ V, p.2.2.length ≤ 1000000) : ACalls Try.prog 135 [.c (.r v (V.map rowP))] [] fun u H => u = .c (I (pathsF (V.map (·.2.2)))) ∧ H = [] := by
  have e1 : (V.map rowP).length = V.length := by simp
  have e2 : (V.map (·.2.2)).length = V.length := by simp
  refine acalls_of (N := 21) Try.func135 rfl rfl (by simp) fun E hE => ?_
  refine WA ?_
  refine WA ?_
  refine aw_if rfl (fun hbig => ?_) (fun hbig => ?_)
  · refine WA ?_
    refine aret_1 [] _ rfl rfl rfl (by decide) (ZNK rfl) (fun _ => .nil) ⟨?_, rfl⟩
    rw [pathsF, if_pos (by omega)]
  refine ZZ ?_
  refine WA ?_
  refine aw_loopw (fun m F H => ∃ (k : Nat), m + k = V.length ∧ firstP ((V.drop k).map (·.2.2)) = firstP (V.map (·.2.2)) ∧ F = [(9, .c (.r v (V.map rowP))), (10, .c (I (V.map rowP).length)), (11, .c (I k))] ∧ H = []) ?_ ?_
  · refine wk_of [] (fun _ => [(9, .c (.r v (V.map rowP))), (10, .c (I (V.map rowP).length)), (11, .c (I (0 : Nat)))]) (fun _ => _) (by decide) (ZNL hE) ZCF (fun _ => .nil) (fun _ => ?_)
    exact ⟨V.length, 0, by omega, rfl, rfl, rfl⟩
  rintro m F H ⟨k, hk, hf, rfl, rfl⟩
  refine WA ?_
  refine aw_if rfl (fun hlt => ?_) (fun hge => ?_)
  · obtain ⟨p, hs⟩ : ∃ s, V[k]? = some s := ⟨_, List.getElem?_eq_getElem (by omega)⟩
    have hrow : (V.map rowP)[k]? = some (rowP p) := by rw [List.getElem?_map, hs]; rfl
    have hfd := firstP_drop hs
    have hql := hq p (List.mem_of_getElem? hs)
    refine WA ?_
    refine WR ?_
    refine al_ef rfl (ef_call0 false (fun _ => rpathfault_a p.2.2 _ (by omega)) rfl .fn rfl (by decide) (by kernel_rfl) rfl (fun _ => C0 rfl) (by simp)) ?_
    rintro _ _ ⟨_, _, _, ⟨rfl, rfl⟩, hF, hH⟩
    (try simp only [nsl, Nat.reduceAdd, Nat.reduceLT, Nat.reduceSub] at hF); (try simp only [nsl, Nat.reduceAdd, Nat.reduceLT, Nat.reduceSub] at hH); subst hF; subst hH
    refine WE ?_
    refine WA ?_
    refine aw_if rfl (fun hne => ?_) (fun heq => ?_)
    · refine WA ?_
      refine aret_1 [] _ rfl rfl rfl (by decide) (ZNK rfl) (fun _ => .nil) ⟨?_, rfl⟩
      rw [pathsF, if_neg (by omega), ← hf, hfd, if_pos hne]
    · refine ZZ ?_
      refine WA ?_
      refine wk_of [] (fun _ => [(9, .c (.r v (V.map rowP))), (10, .c (I (V.map rowP).length)), (11, .c (I (k + 1 : Nat)))]) (fun _ => _) (by decide) (ZNL hE) ZCF (fun _ => .nil) (fun _ => ?_)
      exact ⟨m - 1, by omega, k + 1, by omega, by rw [← hf, hfd, if_neg heq], rfl, rfl⟩
  refine WA ?_
  refine aret_1 [] _ rfl rfl rfl (by decide) (ZNK rfl) (fun _ => .nil) ⟨?_, rfl⟩
  rw [pathsF, if_neg (by omega), ← hf, List.drop_eq_nil_of_le (by omega)]; rfl
theorem pt_eqk {a b : Pt} : a.x = b.x ∧ a.y = b.y ↔ a = b := by cases a; cases b; simp
theorem eqP_a (l l' : List Pt) (v v' : Value) (hl : l.length ≤ 1000000000) (hl' : l'.length ≤ 1000000000) : ACalls Try.prog 138 [.c (.r v (l.map Pt.row)), .c (.r v' (l'.map Pt.row))] [] fun u H => ∃ b : Bool, u = .c (B b) ∧ H = [] ∧ (b = true ↔ l = l') := by
  have e1 : (l.map Pt.row).length = l.length := by simp
  have e2 : (l'.map Pt.row).length = l'.length := by simp
  refine acalls_of (N := 26) Try.func138 rfl rfl (by simp) fun E hE => ?_
  refine WA ?_
  refine WA ?_
  refine aw_if rfl (fun hne => ?_) (fun heq => ?_)
  · refine WA ?_
    exact aret_1 [] _ rfl rfl rfl (by decide) (ZNK rfl) (fun _ => .nil) ⟨_, rfl, rfl, by simp; intro e; rw [e] at hne; omega⟩
  refine ZZ ?_
  refine WA ?_
  refine aw_loopw (fun n F H => ∃ k : Nat, n + k = l.length ∧ l.take k = l'.take k ∧ F = [(0, .c (.r v (l.map Pt.row))), (1, .c (.r v' (l'.map Pt.row))), (12, .c (I (l.map Pt.row).length)), (13, .c (I k))] ∧ H = []) ?_ ?_
  · refine wk_of [] (fun _ => [(0, .c (.r v (l.map Pt.row))), (1, .c (.r v' (l'.map Pt.row))), (12, .c (I (l.map Pt.row).length)), (13, .c (I (0 : Nat)))]) (fun _ => _) (by decide) (ZNL hE) ZCF (fun _ => .nil) (fun _ => ?_)
    exact ⟨l.length, 0, by omega, rfl, rfl, rfl⟩
  rintro n F H ⟨k, hk, ht, rfl, rfl⟩
  refine WA ?_
  refine aw_if rfl (fun hlt => ?_) (fun hge => ?_)
  · obtain ⟨s, hs⟩ : ∃ s, l[k]? = some s := ⟨_, List.getElem?_eq_getElem (by omega)⟩
    obtain ⟨s', hs'⟩ : ∃ s', l'[k]? = some s' := ⟨_, List.getElem?_eq_getElem (by omega)⟩
    have hrow : (l.map Pt.row)[k]? = some (Pt.row s) := by rw [List.getElem?_map, hs]; rfl
    have hrow' : (l'.map Pt.row)[k]? = some (Pt.row s') := by rw [List.getElem?_map, hs']; rfl
    refine WA ?_
    refine ZZ ?_
    refine aw_regionT [(0, none), (1, none), (2, none), (3, none), (4, none), (5, none), (6, none), (7, none), (8, none)] hMixed (by kernel_rfl) ?_
    refine WQ ?_
    refine aw_if rfl (fun hn => ?_) (fun he => ?_)
    · refine WA ?_
      refine aret_1 [] _ rfl rfl rfl (by decide) (ZNK rfl) (fun _ => .nil) ⟨_, rfl, rfl, ?_⟩
      simp only [Bool.false_eq_true, false_iff]
      intro e
      subst e
      rw [hs] at hs'
      exact hn (pt_eqk.2 (Option.some.inj hs'))
    · refine ZZ ?_
      refine WA ?_
      refine wk_of [] (fun _ => [(0, .c (.r v (l.map Pt.row))), (1, .c (.r v' (l'.map Pt.row))), (12, .c (I (l.map Pt.row).length)), (13, .c (I (k + 1 : Nat)))]) (fun _ => _) (by decide) (ZNL hE) ZCF (fun _ => .nil) (fun _ => ?_)
      exact ⟨n - 1, by omega, k + 1, by omega, by rw [take_nextk hs, take_nextk hs', ht, pt_eqk.1 (Decidable.not_not.1 he)], rfl, rfl⟩
  refine WA ?_
  refine aret_1 [] _ rfl rfl rfl (by decide) (ZNK rfl) (fun _ => .nil) ⟨_, rfl, rfl, ?_⟩
  rw [List.take_of_length_le (by omega), List.take_of_length_le (by omega)] at ht
  simp [ht]
theorem eqE_a (l l' : List Int) (v v' : Value) (hl : l.length ≤ 1000000000) (hl' : l'.length ≤ 1000000000) : ACalls Try.prog 59 [.c (.r v (l.map (fun z => [I z]))), .c (.r v' (l'.map (fun z => [I z])))] [] fun u H => ∃ b : Bool, u = .c (B b) ∧ H = [] ∧ (b = true ↔ l = l') := by
  have e1 : (l.map (fun z => [I z])).length = l.length := by simp
  have e2 : (l'.map (fun z => [I z])).length = l'.length := by simp
  refine acalls_of (N := 26) Try.func59 rfl rfl (by simp) fun E hE => ?_
  refine WA ?_
  refine WA ?_
  refine aw_if rfl (fun hne => ?_) (fun heq => ?_)
  · refine WA ?_
    exact aret_1 [] _ rfl rfl rfl (by decide) (ZNK rfl) (fun _ => .nil) ⟨_, rfl, rfl, by simp; intro e; rw [e] at hne; omega⟩
  refine ZZ ?_
  refine WA ?_
  refine aw_loopw (fun n F H => ∃ k : Nat, n + k = l.length ∧ l.take k = l'.take k ∧ F = [(0, .c (.r v (l.map (fun z => [I z])))), (1, .c (.r v' (l'.map (fun z => [I z])))), (12, .c (I (l.map (fun z => [I z])).length)), (13, .c (I k))] ∧ H = []) ?_ ?_
  · refine wk_of [] (fun _ => [(0, .c (.r v (l.map (fun z => [I z])))), (1, .c (.r v' (l'.map (fun z => [I z])))), (12, .c (I (l.map (fun z => [I z])).length)), (13, .c (I (0 : Nat)))]) (fun _ => _) (by decide) (ZNL hE) ZCF (fun _ => .nil) (fun _ => ?_)
    exact ⟨l.length, 0, by omega, rfl, rfl, rfl⟩
  rintro n F H ⟨k, hk, ht, rfl, rfl⟩
  refine WA ?_
  refine aw_if rfl (fun hlt => ?_) (fun hge => ?_)
  · obtain ⟨s, hs⟩ : ∃ s, l[k]? = some s := ⟨_, List.getElem?_eq_getElem (by omega)⟩
    obtain ⟨s', hs'⟩ : ∃ s', l'[k]? = some s' := ⟨_, List.getElem?_eq_getElem (by omega)⟩
    have hrow : (l.map (fun z => [I z]))[k]? = some ((fun z => [I z]) s) := by rw [List.getElem?_map, hs]; rfl
    have hrow' : (l'.map (fun z => [I z]))[k]? = some ((fun z => [I z]) s') := by rw [List.getElem?_map, hs']; rfl
    refine WA ?_
    refine ZZ ?_
    refine aw_regionT [(0, none), (1, none), (2, none), (3, none), (4, none), (5, none), (6, none), (7, none), (8, none)] hMixed (by kernel_rfl) ?_
    refine WQ ?_
    refine aw_if rfl (fun hn => ?_) (fun he => ?_)
    · refine WA ?_
      refine aret_1 [] _ rfl rfl rfl (by decide) (ZNK rfl) (fun _ => .nil) ⟨_, rfl, rfl, ?_⟩
      simp only [Bool.false_eq_true, false_iff]
      intro e
      subst e
      rw [hs] at hs'
      exact hn (one_eqk.2 (Option.some.inj hs'))
    · refine ZZ ?_
      refine WA ?_
      refine wk_of [] (fun _ => [(0, .c (.r v (l.map (fun z => [I z])))), (1, .c (.r v' (l'.map (fun z => [I z])))), (12, .c (I (l.map (fun z => [I z])).length)), (13, .c (I (k + 1 : Nat)))]) (fun _ => _) (by decide) (ZNL hE) ZCF (fun _ => .nil) (fun _ => ?_)
      exact ⟨n - 1, by omega, k + 1, by omega, by rw [take_nextk hs, take_nextk hs', ht, one_eqk.1 (Decidable.not_not.1 he)], rfl, rfl⟩
  refine WA ?_
  refine aret_1 [] _ rfl rfl rfl (by decide) (ZNK rfl) (fun _ => .nil) ⟨_, rfl, rfl, ?_⟩
  rw [List.take_of_length_le (by omega), List.take_of_length_le (by omega)] at ht
  simp [ht]
theorem samepaths1_a (a b : List Pt) (v w : Value) (ha : a.length ≤ 1000000) (hb : b.length ≤ 1000000) : ACalls Try.prog 137 [pth v a false, pth w b false] [] fun u H => ∃ c : Bool, u = .c (B c) ∧ H = [] ∧ (c = true ↔ a = b) := by
  refine acalls_of (N := 17) Try.func137 rfl rfl (by simp) fun E hE => ?_
  refine WA ?_
  refine WR ?_
  first | refine ZS ?_ | (refine G1 rfl ?_; refine al_ef rfl (ef_call0 false (fun _ => eqP_a a b v w (by omega) (by omega)) rfl .fn rfl (by decide) (by kernel_rfl) rfl (fun _ => C0 rfl) (by simp)) ?_; rintro _ _ ⟨_, _, _, ⟨bb, rfl, rfl, hbb⟩, hF, hH⟩; (try simp only [nsl, Nat.reduceAdd, Nat.reduceLT, Nat.reduceSub] at hF); (try simp only [nsl, Nat.reduceAdd, Nat.reduceLT, Nat.reduceSub] at hH); subst hF; subst hH) | skip
  refine WE ?_
  exact aret_1 [] _ rfl rfl rfl (by decide) (ZNK rfl) (fun _ => .nil) ⟨bb, rfl, rfl, hbb⟩
theorem eqfunc_a (V W : List PV) (v w : Value) (hV : V.length ≤ 1000000) (hW : W.length ≤ 1000000) (hv : ∀ p ∈ V, p.2.2.length ≤ 1000000) (hw : ∀ p ∈ W, p.2.2.length ≤ 1000000) : ACalls Try.prog 136 [.c (.r v (V.map rowP)), .c (.r w (W.map rowP)), .f (.func 137) []] [] fun u H => ∃ b : Bool, u = .c (B b) ∧ H = [] ∧ (b = true ↔ V.map (·.2.2) = W.map (·.2.2)) := by
  have e1 : (V.map rowP).length = V.length := by simp
  have e2 : (W.map rowP).length = W.length := by simp
  refine acalls_of (N := 32) Try.func136 rfl rfl (by simp) fun E hE => ?_
  refine WA ?_
  refine WA ?_
  refine aw_if rfl (fun hne => ?_) (fun heq => ?_)
  · refine WA ?_
    exact aret_1 [] _ rfl rfl rfl (by decide) (ZNK rfl) (fun _ => .nil) ⟨_, rfl, rfl, by
      simp only [Bool.false_eq_true, false_iff]
      intro e
      have := congrArg List.length e
      simp only [List.length_map] at this
      omega⟩
  refine ZZ ?_
  refine WA ?_
  refine aw_loopw (fun n F H => ∃ k : Nat, n + k = V.length ∧ (V.take k).map (·.2.2) = (W.take k).map (·.2.2) ∧ F = [(1, .c (.r w (W.map rowP))), (2, .f (.func 137) []), (15, .c (.r v (V.map rowP))), (16, .c (I (V.map rowP).length)), (17, .c (I k))] ∧ H = []) ?_ ?_
  · refine wk_of [] (fun _ => [(1, .c (.r w (W.map rowP))), (2, .f (.func 137) []), (15, .c (.r v (V.map rowP))), (16, .c (I (V.map rowP).length)), (17, .c (I (0 : Nat)))]) (fun _ => []) (by decide) (ZNL hE) ZCF (fun _ => .nil) (fun _ => ?_)
    exact ⟨V.length, 0, by omega, rfl, rfl, rfl⟩
  rintro n F H ⟨k, hk, ht, rfl, rfl⟩
  refine WA ?_
  refine aw_if rfl (fun hlt => ?_) (fun hge => ?_)
  · obtain ⟨p, hs⟩ : ∃ s, V[k]? = some s := ⟨_, List.getElem?_eq_getElem (by omega)⟩
    obtain ⟨q, hs'⟩ : ∃ s', W[k]? = some s' := ⟨_, List.getElem?_eq_getElem (by omega)⟩
    have hrow : (V.map rowP)[k]? = some (rowP p) := by rw [List.getElem?_map, hs]; rfl
    have hrow' : (W.map rowP)[k]? = some (rowP q) := by rw [List.getElem?_map, hs']; rfl
    have hp1 := hv p (List.mem_of_getElem? hs)
    have hq1 := hw q (List.mem_of_getElem? hs')
    refine WA ?_
    refine WA ?_
    refine WR ?_
    refine al_ef rfl (ef_call0 false (fun _ => samepaths1_a p.2.2 q.2.2 _ _ hp1 hq1) rfl (.clo rfl) rfl (by decide) (by kernel_rfl) rfl (fun _ => C0 rfl) (by simp)) ?_
    rintro _ _ ⟨_, _, _, ⟨bb, rfl, rfl, hbb⟩, hF, hH⟩
    (try simp only [nsl, Nat.reduceAdd, Nat.reduceLT, Nat.reduceSub] at hF); (try simp only [nsl, Nat.reduceAdd, Nat.reduceLT, Nat.reduceSub] at hH); subst hF; subst hH
    refine WE ?_
    refine aw_cond rfl (fun hn => ?_) (fun he => ?_)
    · refine WA ?_
      refine aret_1 [] _ rfl rfl rfl (by decide) (ZNK rfl) (fun _ => .nil) ⟨_, rfl, rfl, ?_⟩
      simp only [Bool.false_eq_true, false_iff]
      intro e
      have h1 : (V.map (·.2.2))[k]? = some p.2.2 := by rw [List.getElem?_map, hs]; rfl
      rw [e, List.getElem?_map, hs'] at h1
      injection h1 with h1
      have := hbb.2 h1.symm
      rw [this] at hn
      cases hn
    · have hbt : p.2.2 = q.2.2 := hbb.1 (by simpa using he)
      refine ZZ ?_
      refine WA ?_
      refine wk_of [] (fun _ => [(1, .c (.r w (W.map rowP))), (2, .f (.func 137) []), (15, .c (.r v (V.map rowP))), (16, .c (I (V.map rowP).length)), (17, .c (I (k + 1 : Nat)))]) (fun _ => []) (by decide) (ZNL hE) ZCF (fun _ => .nil) (fun _ => ?_)
      exact ⟨n - 1, by omega, k + 1, by omega, by rw [take_nextk hs, take_nextk hs', List.map_append, List.map_append, ht]; simp [hbt], rfl, rfl⟩
  refine WA ?_
  refine aret_1 [] _ rfl rfl rfl (by decide) (ZNK rfl) (fun _ => .nil) ⟨_, rfl, rfl, ?_⟩
  rw [List.take_of_length_le (by omega), List.take_of_length_le (by omega)] at ht
  simp [ht]
theorem samepaths_a (V W : List PV) (v w : Value) (hV : V.length ≤ 1000000) (hW : W.length ≤ 1000000) (hv : ∀ p ∈ V, p.2.2.length ≤ 1000000) (hw : ∀ p ∈ W, p.2.2.length ≤ 1000000) : ACalls Try.prog 60 [.c (.r v (V.map rowP)), .c (.r w (W.map rowP))] [] fun u H => ∃ b : Bool, u = .c (B b) ∧ H = [] ∧ (b = true ↔ V.map (·.2.2) = W.map (·.2.2)) := by
  refine acalls_of (N := 8) Try.func60 rfl rfl (by simp) fun E hE => ?_
  refine WA ?_
  refine WR ?_
  refine al_ef rfl (ef_call0 false (fun _ => eqfunc_a V W v w hV hW hv hw) rfl .fn rfl (by decide) (by kernel_rfl) rfl (fun _ => C0 rfl) (by simp)) ?_
  rintro _ _ ⟨_, _, _, ⟨bb, rfl, rfl, hbb⟩, hF, hH⟩
  (try simp only [nsl, Nat.reduceAdd, Nat.reduceLT, Nat.reduceSub] at hF); (try simp only [nsl, Nat.reduceAdd, Nat.reduceLT, Nat.reduceSub] at hH); subst hF; subst hH
  refine WE ?_
  exact aret_1 [] _ rfl rfl rfl (by decide) (ZNK rfl) (fun _ => .nil) ⟨bb, rfl, rfl, hbb⟩
end Go.Proofs.Ytpbedckdnoogpaa

/- What a program prints, by value. -/
namespace Go.Proofs.Ytpbedckdnoogpaa
open Go Go.RowKit
set_option maxRecDepth 100000
-- NEWM
abbrev prtL (l : List Step) : Prt := prtK l l.length
def prtF (l : List Step) : Int := if progF l ≠ 0 then progF l else pathsF (prtL l).ps
def okL {α : Type} (e : Int) (l : List α) : List α := if e = 0 then l else []
theorem prt_bnd {l : List Step} (h : progF l = 0) {V : List PV} (hV : V.map (·.2.2) = (prtL l).ps) : V.length ≤ 5000 ∧ ∀ p ∈ V, p.2.2.length ≤ 5001 := by
  obtain ⟨h1, h2⟩ := progF_zero h
  have hk : (prtL l).ok l.length := prtK_ok h2 l.length
  refine ⟨?_, fun p hp => ?_⟩
  · have := congrArg List.length hV
    rw [List.length_map] at this
    have := hk.l3
    omega
  · have := hk.q p.2.2 (by rw [← hV]; exact List.mem_map.2 ⟨p, hp, rfl⟩)
    omega
theorem printed_a (l : List Step) (v : Value) (hl : l.length ≤ 1000000) (hok : ∀ s ∈ l, s.ok) : ACalls Try.prog 53 [.c (prog_r v l)] [] fun u H => ∃ (V : List PV) (vp vh vf : Value), u = .t [.c (.r vp (V.map rowP)), .c (ints_r vh (okL (prtF l) (prtL l).hs)), .c (ints_r vf (okL (prtF l) (prtL l).fs)), .c (I (prtF l))] ∧ V.map (·.2.2) = okL (prtF l) (prtL l).ps ∧ H = [] := by
  refine acallsx_of false (N := 39) Try.func53 rfl rfl (by simp) fun E hE hP => ?_
  refine WA ?_
  refine WR ?_
  refine al_ef rfl (ef_call0 false (fun _ => check_a l v (by omega)) rfl .fn rfl (by decide) (by kernel_rfl) rfl (fun _ => C0 rfl) (by simp)) ?_
  rintro _ _ ⟨_, _, _, ⟨rfl, rfl⟩, hF, hH⟩
  (try simp only [nsl, Nat.reduceAdd, Nat.reduceLT, Nat.reduceSub] at hF); (try simp only [nsl, Nat.reduceAdd, Nat.reduceLT, Nat.reduceSub] at hH); subst hF; subst hH
  refine WE ?_
  refine WA ?_
  refine aw_if rfl (fun hne => ?_) (fun heq => ?_)
  · have hf : prtF l = progF l := by rw [prtF, if_pos hne]
    refine WA ?_
    exact aret_of (us := [.c (.r (.slice none 0 0) []), .c (.r (.slice none 0 0) []), .c (.r (.slice none 0 0) []), .c (I (progF l))]) [] (fun _ => .t [.c (.r (.slice none 0 0) []), .c (.r (.slice none 0 0) []), .c (.r (.slice none 0 0) []), .c (I (progF l))]) (fun _ => []) (.tmp rfl (.tmp rfl (.tmp rfl (.tmp rfl .nil)))) (by decide) (ZNK rfl) (fun _ => .tL (C0 rfl)) (fun _ => .nil) (fun _ => ⟨[], .slice none 0 0, .slice none 0 0, .slice none 0 0, by rw [hf, okL, okL, if_neg hne, if_neg hne]; rfl, by rw [hf, okL, if_neg hne]; rfl, rfl⟩)
  have h0 : progF l = 0 := by omega
  have hz := progF_zero h0
  have hf : prtF l = pathsF (prtL l).ps := by rw [prtF, if_neg heq]
  refine ZZ ?_
  refine WR ?_
  refine al_nil ?_
  refine aseq_n ?_
  refine aw_wk (wk_of (K := fun F H => F = [(1, .p 1 0 0), (7, .p 0 0 0)] ∧ H = prtH l v [] [] [] false 0 0 0) [some 2, some 0, some 1, none, none, none] (fun _ => [(1, .p 1 0 0), (7, .p 0 0 0)]) (fun _ => prtH l v [] [] [] false 0 0 0) (by decide) (ZNL hE) ZCF ZCG (fun _ => ⟨rfl, rfl⟩)) ?_
  rintro F H ⟨rfl, rfl⟩
  refine WR ?_
  refine al_ef rfl (ef_call [0, 1, 2, 3, 4, 5] (fun _ => prtH l v [] [] [] false 0 0 0) false (fun _ => runPrt_a l v hz.1 hz.2 hok) rfl .fn rfl (by decide) (by kernel_rfl) rfl ZCH (by decide) ZCG (by simp)) ?_
  rintro F1 H1 ⟨_, _, _, _, ⟨V, cp, ch, cf, rfl, hV, hq⟩, hF, hH⟩
  subst hq
  (try simp only [List.set_cons_zero, List.set_cons_succ, updH, posOf, lentArr, killF, killO, killV, AV.has, AV.hasL, AV.emb, AV.embL, OB.emb, embB, List.filter_cons, List.filter_nil, List.getElem?_cons_zero, List.getElem?_cons_succ, List.getD_cons_zero, List.getD_cons_succ, List.drop_succ_cons, List.drop_zero, List.drop_nil, List.contains_cons, List.contains_nil, Nat.reduceBEq, Nat.reduceEqDiff, beq_self_eq_true, Bool.or_false, Bool.false_or, Bool.or_true, Bool.true_or, Bool.false_eq_true, Option.map_some, Option.map_none, List.map_cons, List.map_nil, List.cons_append, List.nil_append, List.append_nil, List.length_cons, List.length_nil, Nat.reduceAdd, Nat.reduceLT, Nat.reduceSub, if_true, if_false, Nat.zero_add, Nat.add_zero, Nat.sub_zero, Nat.lt_irrefl, Nat.not_lt_zero, Nat.zero_lt_one, Nat.lt_add_one] at hF); (try simp only [List.set_cons_zero, List.set_cons_succ, updH, posOf, lentArr, killF, killO, killV, AV.has, AV.hasL, AV.emb, AV.embL, OB.emb, embB, List.filter_cons, List.filter_nil, List.getElem?_cons_zero, List.getElem?_cons_succ, List.getD_cons_zero, List.getD_cons_succ, List.drop_succ_cons, List.drop_zero, List.drop_nil, List.contains_cons, List.contains_nil, Nat.reduceBEq, Nat.reduceEqDiff, beq_self_eq_true, Bool.or_false, Bool.false_or, Bool.or_true, Bool.true_or, Bool.false_eq_true, Option.map_some, Option.map_none, List.map_cons, List.map_nil, List.cons_append, List.nil_append, List.append_nil, List.length_cons, List.length_nil, Nat.reduceAdd, Nat.reduceLT, Nat.reduceSub, if_true, if_false, Nat.zero_add, Nat.add_zero, Nat.sub_zero, Nat.lt_irrefl, Nat.not_lt_zero, Nat.zero_lt_one, Nat.lt_add_one] at hH); subst hF; subst hH
  refine WO ?_
  refine al_nil ?_
  refine aseq_n ?_
  refine aw_wk (wk_of (K := fun F H => ∃ vp vh vf g, F = [(7, .p 0 0 0)] ∧ H = [.box [.p 1 0 0], .box [.c (.r vp (V.map rowP)), .c (ints_r vh (prtL l).hs), .c (ints_r vf (prtL l).fs), .c (B g)]]) [some 0, some 2] (fun _ => [(7, .p 0 0 0)]) (fun g => [.box [.p 1 0 0], .box [.c (.r (g (.o 3 0 (V.map rowP).length cp)) (V.map rowP)), .c (ints_r (g (.o 4 0 (prtL l).hs.length ch)) (prtL l).hs), .c (ints_r (g (.o 5 0 (prtL l).fs.length cf)) (prtL l).fs), .c (B (prtL l).go)]]) (by decide) (ZNL hE) ZCF (fun _ => .box rfl (.cons (.p rfl) .nil) (.box rfl (.cons (.frz rfl rfl (by rw [List.drop_zero, List.take_of_length_le (by simp)]) (by simp) rfl) (.cons (.frz rfl rfl (by rw [List.drop_zero, List.take_of_length_le (by simp)]) (by simp) rfl) (.cons (.frz rfl rfl (by rw [List.drop_zero, List.take_of_length_le (by simp)]) (by simp) rfl) (.cons (.c rfl) .nil)))) .nil)) (fun _ => ⟨_, _, _, _, rfl, rfl⟩)) ?_
  rintro F H ⟨vp, vh, vf, g, rfl, rfl⟩
  have hb := prt_bnd h0 hV
  have hvq : ∀ p ∈ V, p.2.2.length ≤ 1000000 := fun p hp => by have := hb.2 p hp; omega
  have hbl := hb.1
  refine WR ?_
  refine al_ef rfl (ef_call0 false (fun _ => checkpaths_a V vp (by omega) hvq) rfl .fn rfl (by decide) (by kernel_rfl) rfl (fun _ => C0 rfl) (by simp)) ?_
  rintro _ _ ⟨_, _, _, ⟨rfl, rfl⟩, hF, hH⟩
  (try simp only [nsl, Nat.reduceAdd, Nat.reduceLT, Nat.reduceSub] at hF); (try simp only [nsl, Nat.reduceAdd, Nat.reduceLT, Nat.reduceSub] at hH); subst hF; subst hH
  refine WE ?_
  refine WA ?_
  rw [hV]
  refine aw_if rfl (fun hne => ?_) (fun hne => ?_)
  · refine WA ?_
    exact aret_of (us := [.c (.r (.slice none 0 0) []), .c (.r (.slice none 0 0) []), .c (.r (.slice none 0 0) []), .c (I (pathsF (prtL l).ps))]) [] (fun _ => .t [.c (.r (.slice none 0 0) []), .c (.r (.slice none 0 0) []), .c (.r (.slice none 0 0) []), .c (I (pathsF (prtL l).ps))]) (fun _ => []) (.tmp rfl (.tmp rfl (.tmp rfl (.tmp rfl .nil)))) (by decide) (ZNK rfl) (fun _ => .tL (C0 rfl)) (fun _ => .nil) (fun _ => ⟨[], .slice none 0 0, .slice none 0 0, .slice none 0 0, by rw [hf, okL, okL, if_neg hne, if_neg hne]; rfl, by rw [hf, okL, if_neg hne]; rfl, rfl⟩)
  · refine ZZ ?_
    refine ZZ ?_
    refine aw_regionT [(0, none), (1, none), (2, none), (3, none), (4, none), (5, none), (6, none), (7, none), (8, none), (9, none), (10, none), (11, none), (12, none), (13, none), (14, none), (15, none)] hMixed (by kernel_rfl) ?_
    refine WQ ?_
    have hz2 : pathsF (prtL l).ps = 0 := Decidable.not_not.1 hne
    rw [hz2] at hf
    exact aret_of (us := [.c (.r vp (V.map rowP)), .c (ints_r vh (prtL l).hs), .c (ints_r vf (prtL l).fs), .c (I 0)]) [] (fun _ => .t [.c (.r vp (V.map rowP)), .c (ints_r vh (prtL l).hs), .c (ints_r vf (prtL l).fs), .c (I 0)]) (fun _ => []) (.tmp rfl (.tmp rfl (.tmp rfl (.tmp rfl .nil)))) (by decide) (ZNK rfl) (fun _ => .tL (C0 rfl)) (fun _ => .nil) (fun _ => ⟨V, vp, vh, vf, by rw [hf, okL, okL, if_pos rfl, if_pos rfl], by rw [hf, okL, if_pos rfl, hV], rfl⟩)
end Go.Proofs.Ytpbedckdnoogpaa

/- What a program prints, as the reference says it, by value. -/
namespace Go.Proofs.Ytpbedckdnoogpaa
open Go Go.RowKit
set_option maxRecDepth 100000
-- NEWM
def PD0 (l : List Step) (k : Nat) (R : List (List CV)) (hs fs : List Int) (g : Bool) : Prop := ∃ V : List PV, R = V.map rowP ∧ V.map (·.2.2) = (prtK l k).ps ∧ hs = (prtK l k).hs ∧ fs = (prtK l k).fs ∧ g = (prtK l k).go
def PD1 (l : List Step) (k : Nat) (R : List (List CV)) (hs fs : List Int) (g : Bool) (c3 : Nat) (rows3 : List (List CV)) (n4 : Nat) (A4 : Option Addr) : Prop := ∃ (V : List PV) (pts : List Pt) (f : Int) (fs0 : List Int), R = V.map rowP ++ [[.s (.slice A4 n4 c3), B false]] ∧ V.map (·.2.2) ++ [pts] = (prtK l k).ps ∧ hs = (prtK l k).hs ∧ fs = fs0 ++ [f] ∧ fs = (prtK l k).fs ∧ g = (prtK l k).go ∧ rows3 = pts.map Pt.row ∧ n4 = pts.length
abbrev pofF (l : List Step) (v : Value) (k nR nh nf : Nat) (g : Bool) (cp ch cf : Nat) : Fm := [(0, .c (prog_r v l)), (6, .o 0 0 nR cp), (7, .o 1 0 nh ch), (8, .o 2 0 nf cf), (9, .c (B g)), (19, .c (prog_r v l)), (20, .c (I (l.map Step.row).length)), (21, .c (I k))]
abbrev pofH (R : List (List CV)) (hs fs : List Int) (cp ch cf c3 : Nat) (rows3 : List (List CV)) (n4 : Nat) (A4 : Option Addr) : List OB := [.arr 96 2 cp R, .arr 3 1 ch (hs.map fun z => [I z]), .arr 3 1 cf (fs.map fun z => [I z]), .arr 145 2 c3 rows3, .eqv (.o 3 0 n4 c3) (.slice A4 n4 c3)]
set_option maxHeartbeats 8000000 in
theorem qprinted_a (l : List Step) (v : Value) (h0 : progF l = 0) (hok : ∀ s ∈ l, s.ok) : ACalls Try.prog 57 [.c (prog_r v l)] [] fun u H => ∃ (V : List PV) (vp vh vf : Value), u = .t [.c (.r vp (V.map rowP)), .c (ints_r vh (okL (prtF l) (prtL l).hs)), .c (ints_r vf (okL (prtF l) (prtL l).fs)), .c (I (prtF l))] ∧ V.map (·.2.2) = okL (prtF l) (prtL l).ps ∧ H = [] := by
  have hz := progF_zero h0
  obtain ⟨hl, hg⟩ := progF_zero h0
  have hf : prtF l = pathsF (prtL l).ps := by rw [prtF, if_neg (by omega)]
  have e1 : (l.map Step.row).length = l.length := by simp
  have hrl : ∀ row ∈ l.map Step.row, row.length = 6 := by intro row hr; obtain ⟨s, -, rfl⟩ := List.mem_map.1 hr; rfl
  refine acallsx_of false (N := 125) Try.func57 rfl rfl (by simp) fun E hE hP => ?_
  refine WA ?_
  refine WA ?_
  refine WA ?_
  refine WA ?_
  refine WR ?_
  refine al_nil ?_
  refine aseq_n ?_
  refine aw_wk (wk_of (K := fun F H => F = (2, .o 3 0 0 0) :: pofF l v 0 0 0 0 false 0 0 0 ∧ H = [.arr 96 2 0 [], .arr 3 1 0 [], .arr 3 1 0 [], .arr 145 2 0 []]) [none, none, none, none] (fun _ => (2, .o 3 0 0 0) :: pofF l v 0 0 0 0 false 0 0 0) (fun _ => [.arr 96 2 0 [], .arr 3 1 0 [], .arr 3 1 0 [], .arr 145 2 0 []]) (by decide) (ZNL hE) ZCF ZCG (fun _ => ⟨rfl, rfl⟩)) ?_
  rintro F H ⟨rfl, rfl⟩
  refine aw_ghost (i := 2) rfl fun A0 => ?_
  refine ZZ ?_
  refine aw_loopw (fun n F H => ∃ (k : Nat) (R : List (List CV)) (hs fs : List Int) (g : Bool) (cp ch cf c3 : Nat) (rows3 : List (List CV)) (n4 : Nat) (A4 : Option Addr), n + k = l.length ∧ ((PD0 l k R hs fs g ∧ g = false) ∨ PD1 l k R hs fs g c3 rows3 n4 A4) ∧ F = pofF l v k R.length hs.length fs.length g cp ch cf ∧ H = pofH R hs fs cp ch cf c3 rows3 n4 A4) ?_ ?_
  · refine wk_of [some 0, some 1, some 2, some 3, some 4] (fun _ => pofF l v 0 ([] : List (List CV)).length ([] : List Int).length ([] : List Int).length false 0 0 0) (fun _ => pofH [] [] [] 0 0 0 0 [] 0 A0) (by decide) (ZNL hE) ZCF ZCG (fun _ => ?_)
    exact ⟨l.length, 0, [], [], [], false, 0, 0, 0, 0, [], _, _, by omega, .inl ⟨⟨[], rfl, rfl, rfl, rfl, rfl⟩, rfl⟩, rfl, rfl⟩
  rintro n F H ⟨k, R, hs, fs, g, cp, ch, cf, c3, rows3, n4, A4, hk, hD, rfl, rfl⟩
  have hko := prtK_ok hg k
  have hlens : hs.length = R.length ∧ fs.length = R.length ∧ R.length ≤ k := by
    have := hko.l1; have := hko.l2; have := hko.l3
    rcases hD with ⟨⟨V, rfl, hps, rfl, rfl, rfl⟩, hgo⟩ | ⟨V, pts, f, fs0, rfl, hps, rfl, rfl, hfs, rfl, rfl, rfl⟩
    · have q1 := congrArg List.length hps
      simp only [List.length_map] at q1 ⊢
      omega
    · have q1 := congrArg List.length hps
      have q2 := congrArg List.length hfs
      simp only [List.length_map, List.length_append, List.length_singleton] at q1 q2 ⊢
      omega
  refine WA ?_
  refine aw_if rfl (fun hlt => ?_) (fun hge => ?_)
  · obtain ⟨s, hs'⟩ : ∃ s, l[k]? = some s := ⟨_, List.getElem?_eq_getElem (by omega)⟩
    have hrow : (l.map Step.row)[k]? = some s.row := by rw [List.getElem?_map, hs']; rfl
    have hso := hok s (List.mem_of_getElem? hs')
    have hsg := hg s (List.mem_of_getElem? hs')
    have hK := prtK_succ hs'
    have hmv : Moved s (lastS (l.take k)) (lastS (l.take (k + 1))) := by rw [lastS_succ hs']; exact moved_after _ _
    refine WA ?_
    refine aw_cutq (fun F H => F = [(11, .p 5 0 0), (12, .p 6 0 0), (13, .p 7 0 0)] ++ pofF l v k R.length hs.length fs.length g cp ch cf ∧ H = pofH R hs fs cp ch cf c3 rows3 n4 A4 ++ [.box (s.row.map .c), .box ((lastS (l.take k)).row.map .c), .box ((lastS (l.take (k + 1))).row.map .c)]) ?_ ?_ wk_aw
    · refine ZZ ?_
      refine aw_regionM [[(0, none), (1, none), (2, none), (4, none), (5, none), (6, none), (7, none), (3, some [4, 5, 6, 7]), (8, some []), (9, some [0, 1, 2, 4, 5, 6, 7]), (10, some [0, 1, 2, 4, 5, 6, 7]), (11, some []), (12, some [])], [(0, none), (1, none), (2, none), (4, none), (5, none), (6, none), (7, none), (3, some [4, 5, 6, 7]), (8, some []), (10, some [0, 1, 2, 4, 5, 6, 7]), (9, some [0, 1, 2, 4, 5, 6, 7]), (11, some []), (12, some [])], [(0, none), (1, none), (2, none), (4, none), (5, none), (6, none), (7, none), (3, some [4, 5, 6, 7]), (9, some [0, 1, 2, 4, 5, 6, 7]), (8, some []), (10, some [0, 1, 2, 4, 5, 6, 7]), (11, some []), (12, some [])], [(0, none), (1, none), (2, none), (4, none), (5, none), (6, none), (7, none), (3, some [4, 5, 6, 7]), (9, some [0, 1, 2, 4, 5, 6, 7]), (10, some [0, 1, 2, 4, 5, 6, 7]), (8, some []), (11, some []), (12, some [])], [(0, none), (1, none), (2, none), (4, none), (5, none), (6, none), (7, none), (3, some [4, 5, 6, 7]), (10, some [0, 1, 2, 4, 5, 6, 7]), (8, some []), (9, some [0, 1, 2, 4, 5, 6, 7]), (11, some []), (12, some [])], [(0, none), (1, none), (2, none), (4, none), (5, none), (6, none), (7, none), (3, some [4, 5, 6, 7]), (10, some [0, 1, 2, 4, 5, 6, 7]), (9, some [0, 1, 2, 4, 5, 6, 7]), (8, some []), (11, some []), (12, some [])], [(0, none), (1, none), (2, none), (4, none), (5, none), (6, none), (7, none), (9, some [0, 1, 2, 4, 5, 6, 7]), (3, some [4, 5, 6, 7]), (8, some []), (10, some [0, 1, 2, 4, 5, 6, 7]), (11, some []), (12, some [])], [(0, none), (1, none), (2, none), (4, none), (5, none), (6, none), (7, none), (9, some [0, 1, 2, 4, 5, 6, 7]), (3, some [4, 5, 6, 7]), (10, some [0, 1, 2, 4, 5, 6, 7]), (8, some []), (11, some []), (12, some [])], [(0, none), (1, none), (2, none), (4, none), (5, none), (6, none), (7, none), (9, some [0, 1, 2, 4, 5, 6, 7]), (10, some [0, 1, 2, 4, 5, 6, 7]), (3, some [4, 5, 6, 7]), (8, some []), (11, some []), (12, some [])], [(0, none), (1, none), (2, none), (4, none), (5, none), (6, none), (7, none), (10, some [0, 1, 2, 4, 5, 6, 7]), (3, some [4, 5, 6, 7]), (8, some []), (9, some [0, 1, 2, 4, 5, 6, 7]), (11, some []), (12, some [])], [(0, none), (1, none), (2, none), (4, none), (5, none), (6, none), (7, none), (10, some [0, 1, 2, 4, 5, 6, 7]), (3, some [4, 5, 6, 7]), (9, some [0, 1, 2, 4, 5, 6, 7]), (8, some []), (11, some []), (12, some [])], [(0, none), (1, none), (2, none), (4, none), (5, none), (6, none), (7, none), (10, some [0, 1, 2, 4, 5, 6, 7]), (9, some [0, 1, 2, 4, 5, 6, 7]), (3, some [4, 5, 6, 7]), (8, some []), (11, some []), (12, some [])]] hMixed (by kernel_rfl) ?_
      focus
        iterate 5 refine WX3 ?_
        refine ZM (i := 6) (by rfl) (by rfl) rfl (rd_addz (z := ((k + 1 : Nat) : Int)) rfl rfl rfl (by omega) (by omega)) ?_
        refine WM ?_
        refine am_three (by rfl) (by rfl) (by rfl) (by rfl) ?_ ?_ ?_
        rotate_left 2
        refine WM ?_
        refine am_two (by rfl) (by rfl) (by rfl) ?_ ?_
        rotate_left
        refine WM ?_
        refine am_ef (i := 3) (by rfl) (by rfl) rfl rfl (ef_call0 false (fun _ => qlast_a (l.take k) (subV v 0 k 6) (by simp; omega) (fun s hs => hok s (List.mem_of_mem_take hs))) rfl .fn rfl (by decide) (by kernel_rfl) rfl (fun _g => .cons (.c (by simp)) .nil) (by simp)) ?_
        rintro _ _ ⟨_, _, _, ⟨rfl, rfl⟩, hF, hH⟩
        (try simp only [nsl, Nat.reduceAdd, Nat.reduceLT, Nat.reduceSub] at hF); (try simp only [nsl, Nat.reduceAdd, Nat.reduceLT, Nat.reduceSub] at hH); subst hF; subst hH
        refine ⟨AGX, ?_⟩
        refine am_ef (i := 8) (by rfl) (by rfl) rfl rfl (ef_call0 false (fun _ => qlast_a (l.take (k + 1)) (subV v 0 (k + 1) 6) (by simp; omega) (fun s hs => hok s (List.mem_of_mem_take hs))) rfl .fn rfl (by decide) (by kernel_rfl) rfl (fun _g => .cons (.c (by simp)) .nil) (by simp)) ?_
        rintro _ _ ⟨_, _, _, ⟨rfl, rfl⟩, hF, hH⟩
        (try simp only [nsl, Nat.reduceAdd, Nat.reduceLT, Nat.reduceSub] at hF); (try simp only [nsl, Nat.reduceAdd, Nat.reduceLT, Nat.reduceSub] at hH); subst hF; subst hH
        refine ⟨AGX, ?_⟩
        refine WN ?_
        rotate_right
        refine am_ef (i := 3) (by rfl) (by rfl) rfl rfl (ef_call0 false (fun _ => qlast_a (l.take k) (subV v 0 k 6) (by simp; omega) (fun s hs => hok s (List.mem_of_mem_take hs))) rfl .fn rfl (by decide) (by kernel_rfl) rfl (fun _g => .cons (.c (by simp)) .nil) (by simp)) ?_
        rintro _ _ ⟨_, _, _, ⟨rfl, rfl⟩, hF, hH⟩
        (try simp only [nsl, Nat.reduceAdd, Nat.reduceLT, Nat.reduceSub] at hF); (try simp only [nsl, Nat.reduceAdd, Nat.reduceLT, Nat.reduceSub] at hH); subst hF; subst hH
        refine ⟨AGX, ?_⟩
        refine am_two (by rfl) (by rfl) (by rfl) ?_ ?_
        rotate_left
        refine WM ?_
        refine am_ef (i := 8) (by rfl) (by rfl) rfl rfl (ef_call0 false (fun _ => qlast_a (l.take (k + 1)) (subV v 0 (k + 1) 6) (by simp; omega) (fun s hs => hok s (List.mem_of_mem_take hs))) rfl .fn rfl (by decide) (by kernel_rfl) rfl (fun _g => .cons (.c (by simp)) .nil) (by simp)) ?_
        rintro _ _ ⟨_, _, _, ⟨rfl, rfl⟩, hF, hH⟩
        (try simp only [nsl, Nat.reduceAdd, Nat.reduceLT, Nat.reduceSub] at hF); (try simp only [nsl, Nat.reduceAdd, Nat.reduceLT, Nat.reduceSub] at hH); subst hF; subst hH
        refine ⟨AGX, ?_⟩
        refine WN ?_
        rotate_right
        refine am_ef (i := 8) (by rfl) (by rfl) rfl rfl (ef_call0 false (fun _ => qlast_a (l.take (k + 1)) (subV v 0 (k + 1) 6) (by simp; omega) (fun s hs => hok s (List.mem_of_mem_take hs))) rfl .fn rfl (by decide) (by kernel_rfl) rfl (fun _g => .cons (.c (by simp)) .nil) (by simp)) ?_
        rintro _ _ ⟨_, _, _, ⟨rfl, rfl⟩, hF, hH⟩
        (try simp only [nsl, Nat.reduceAdd, Nat.reduceLT, Nat.reduceSub] at hF); (try simp only [nsl, Nat.reduceAdd, Nat.reduceLT, Nat.reduceSub] at hH); subst hF; subst hH
        refine ⟨AGX, ?_⟩
        refine WN ?_
        rotate_right
        refine WM ?_
        refine am_two (by rfl) (by rfl) (by rfl) ?_ ?_
        rotate_left
        refine WM ?_
        refine am_ef (i := 3) (by rfl) (by rfl) rfl rfl (ef_call0 false (fun _ => qlast_a (l.take k) (subV v 0 k 6) (by simp; omega) (fun s hs => hok s (List.mem_of_mem_take hs))) rfl .fn rfl (by decide) (by kernel_rfl) rfl (fun _g => .cons (.c (by simp)) .nil) (by simp)) ?_
        rintro _ _ ⟨_, _, _, ⟨rfl, rfl⟩, hF, hH⟩
        (try simp only [nsl, Nat.reduceAdd, Nat.reduceLT, Nat.reduceSub] at hF); (try simp only [nsl, Nat.reduceAdd, Nat.reduceLT, Nat.reduceSub] at hH); subst hF; subst hH
        refine ⟨AGX, ?_⟩
        refine am_ef (i := 8) (by rfl) (by rfl) rfl rfl (ef_call0 false (fun _ => qlast_a (l.take (k + 1)) (subV v 0 (k + 1) 6) (by simp; omega) (fun s hs => hok s (List.mem_of_mem_take hs))) rfl .fn rfl (by decide) (by kernel_rfl) rfl (fun _g => .cons (.c (by simp)) .nil) (by simp)) ?_
        rintro _ _ ⟨_, _, _, ⟨rfl, rfl⟩, hF, hH⟩
        (try simp only [nsl, Nat.reduceAdd, Nat.reduceLT, Nat.reduceSub] at hF); (try simp only [nsl, Nat.reduceAdd, Nat.reduceLT, Nat.reduceSub] at hH); subst hF; subst hH
        refine ⟨AGX, ?_⟩
        refine WN ?_
        rotate_right
        refine am_ef (i := 3) (by rfl) (by rfl) rfl rfl (ef_call0 false (fun _ => qlast_a (l.take k) (subV v 0 k 6) (by simp; omega) (fun s hs => hok s (List.mem_of_mem_take hs))) rfl .fn rfl (by decide) (by kernel_rfl) rfl (fun _g => .cons (.c (by simp)) .nil) (by simp)) ?_
        rintro _ _ ⟨_, _, _, ⟨rfl, rfl⟩, hF, hH⟩
        (try simp only [nsl, Nat.reduceAdd, Nat.reduceLT, Nat.reduceSub] at hF); (try simp only [nsl, Nat.reduceAdd, Nat.reduceLT, Nat.reduceSub] at hH); subst hF; subst hH
        refine ⟨AGX, ?_⟩
        refine am_two (by rfl) (by rfl) (by rfl) ?_ ?_
        rotate_left
        refine WM ?_
        refine am_ef (i := 8) (by rfl) (by rfl) rfl rfl (ef_call0 false (fun _ => qlast_a (l.take (k + 1)) (subV v 0 (k + 1) 6) (by simp; omega) (fun s hs => hok s (List.mem_of_mem_take hs))) rfl .fn rfl (by decide) (by kernel_rfl) rfl (fun _g => .cons (.c (by simp)) .nil) (by simp)) ?_
        rintro _ _ ⟨_, _, _, ⟨rfl, rfl⟩, hF, hH⟩
        (try simp only [nsl, Nat.reduceAdd, Nat.reduceLT, Nat.reduceSub] at hF); (try simp only [nsl, Nat.reduceAdd, Nat.reduceLT, Nat.reduceSub] at hH); subst hF; subst hH
        refine ⟨AGX, ?_⟩
        refine WN ?_
        rotate_right
        refine am_ef (i := 8) (by rfl) (by rfl) rfl rfl (ef_call0 false (fun _ => qlast_a (l.take (k + 1)) (subV v 0 (k + 1) 6) (by simp; omega) (fun s hs => hok s (List.mem_of_mem_take hs))) rfl .fn rfl (by decide) (by kernel_rfl) rfl (fun _g => .cons (.c (by simp)) .nil) (by simp)) ?_
        rintro _ _ ⟨_, _, _, ⟨rfl, rfl⟩, hF, hH⟩
        (try simp only [nsl, Nat.reduceAdd, Nat.reduceLT, Nat.reduceSub] at hF); (try simp only [nsl, Nat.reduceAdd, Nat.reduceLT, Nat.reduceSub] at hH); subst hF; subst hH
        refine ⟨AGX, ?_⟩
        refine WN ?_
        rotate_right
        refine am_ef (i := 3) (by rfl) (by rfl) rfl rfl (ef_call0 false (fun _ => qlast_a (l.take k) (subV v 0 k 6) (by simp; omega) (fun s hs => hok s (List.mem_of_mem_take hs))) rfl .fn rfl (by decide) (by kernel_rfl) rfl (fun _g => .cons (.c (by simp)) .nil) (by simp)) ?_
        rintro _ _ ⟨_, _, _, ⟨rfl, rfl⟩, hF, hH⟩
        (try simp only [nsl, Nat.reduceAdd, Nat.reduceLT, Nat.reduceSub] at hF); (try simp only [nsl, Nat.reduceAdd, Nat.reduceLT, Nat.reduceSub] at hH); subst hF; subst hH
        refine ⟨AGX, ?_⟩
        refine am_three (by rfl) (by rfl) (by rfl) (by rfl) ?_ ?_ ?_
        rotate_left 2
        refine WM ?_
        refine am_two (by rfl) (by rfl) (by rfl) ?_ ?_
        rotate_left
        refine WM ?_
        refine am_ef (i := 8) (by rfl) (by rfl) rfl rfl (ef_call0 false (fun _ => qlast_a (l.take (k + 1)) (subV v 0 (k + 1) 6) (by simp; omega) (fun s hs => hok s (List.mem_of_mem_take hs))) rfl .fn rfl (by decide) (by kernel_rfl) rfl (fun _g => .cons (.c (by simp)) .nil) (by simp)) ?_
        rintro _ _ ⟨_, _, _, ⟨rfl, rfl⟩, hF, hH⟩
        (try simp only [nsl, Nat.reduceAdd, Nat.reduceLT, Nat.reduceSub] at hF); (try simp only [nsl, Nat.reduceAdd, Nat.reduceLT, Nat.reduceSub] at hH); subst hF; subst hH
        refine ⟨AGX, ?_⟩
        refine WN ?_
        rotate_right
        refine am_ef (i := 8) (by rfl) (by rfl) rfl rfl (ef_call0 false (fun _ => qlast_a (l.take (k + 1)) (subV v 0 (k + 1) 6) (by simp; omega) (fun s hs => hok s (List.mem_of_mem_take hs))) rfl .fn rfl (by decide) (by kernel_rfl) rfl (fun _g => .cons (.c (by simp)) .nil) (by simp)) ?_
        rintro _ _ ⟨_, _, _, ⟨rfl, rfl⟩, hF, hH⟩
        (try simp only [nsl, Nat.reduceAdd, Nat.reduceLT, Nat.reduceSub] at hF); (try simp only [nsl, Nat.reduceAdd, Nat.reduceLT, Nat.reduceSub] at hH); subst hF; subst hH
        refine ⟨AGX, ?_⟩
        refine WN ?_
        rotate_right
        refine WM ?_
        refine am_two (by rfl) (by rfl) (by rfl) ?_ ?_
        rotate_left
        refine WM ?_
        refine am_ef (i := 8) (by rfl) (by rfl) rfl rfl (ef_call0 false (fun _ => qlast_a (l.take (k + 1)) (subV v 0 (k + 1) 6) (by simp; omega) (fun s hs => hok s (List.mem_of_mem_take hs))) rfl .fn rfl (by decide) (by kernel_rfl) rfl (fun _g => .cons (.c (by simp)) .nil) (by simp)) ?_
        rintro _ _ ⟨_, _, _, ⟨rfl, rfl⟩, hF, hH⟩
        (try simp only [nsl, Nat.reduceAdd, Nat.reduceLT, Nat.reduceSub] at hF); (try simp only [nsl, Nat.reduceAdd, Nat.reduceLT, Nat.reduceSub] at hH); subst hF; subst hH
        refine ⟨AGX, ?_⟩
        refine WN ?_
        rotate_right
        refine am_ef (i := 8) (by rfl) (by rfl) rfl rfl (ef_call0 false (fun _ => qlast_a (l.take (k + 1)) (subV v 0 (k + 1) 6) (by simp; omega) (fun s hs => hok s (List.mem_of_mem_take hs))) rfl .fn rfl (by decide) (by kernel_rfl) rfl (fun _g => .cons (.c (by simp)) .nil) (by simp)) ?_
        rintro _ _ ⟨_, _, _, ⟨rfl, rfl⟩, hF, hH⟩
        (try simp only [nsl, Nat.reduceAdd, Nat.reduceLT, Nat.reduceSub] at hF); (try simp only [nsl, Nat.reduceAdd, Nat.reduceLT, Nat.reduceSub] at hH); subst hF; subst hH
        refine ⟨AGX, ?_⟩
        refine WN ?_
        rotate_right
        refine am_ef (i := 8) (by rfl) (by rfl) rfl rfl (ef_call0 false (fun _ => qlast_a (l.take (k + 1)) (subV v 0 (k + 1) 6) (by simp; omega) (fun s hs => hok s (List.mem_of_mem_take hs))) rfl .fn rfl (by decide) (by kernel_rfl) rfl (fun _g => .cons (.c (by simp)) .nil) (by simp)) ?_
        rintro _ _ ⟨_, _, _, ⟨rfl, rfl⟩, hF, hH⟩
        (try simp only [nsl, Nat.reduceAdd, Nat.reduceLT, Nat.reduceSub] at hF); (try simp only [nsl, Nat.reduceAdd, Nat.reduceLT, Nat.reduceSub] at hH); subst hF; subst hH
        refine ⟨AGX, ?_⟩
        refine am_two (by rfl) (by rfl) (by rfl) ?_ ?_
        rotate_left
        refine WN ?_
        rotate_right
        refine WN ?_
      all_goals first
        | exact wk_of [some 0, some 1, some 2, some 3, some 4, some 5, some 6, some 7] (fun _ => [(11, .p 5 0 0), (12, .p 6 0 0), (13, .p 7 0 0)] ++ pofF l v k R.length hs.length fs.length g cp ch cf) (fun _ => pofH R hs fs cp ch cf c3 rows3 n4 A4 ++ [.box (s.row.map .c), .box ((lastS (l.take k)).row.map .c), .box ((lastS (l.take (k + 1))).row.map .c)]) (by decide) (ZNL hE) ZCF ZCG (fun _ => ⟨rfl, rfl⟩)
        | exact wk_of [some 0, some 1, some 2, some 3, some 4, some 5, some 7, some 6] (fun _ => [(11, .p 5 0 0), (12, .p 6 0 0), (13, .p 7 0 0)] ++ pofF l v k R.length hs.length fs.length g cp ch cf) (fun _ => pofH R hs fs cp ch cf c3 rows3 n4 A4 ++ [.box (s.row.map .c), .box ((lastS (l.take k)).row.map .c), .box ((lastS (l.take (k + 1))).row.map .c)]) (by decide) (ZNL hE) ZCF ZCG (fun _ => ⟨rfl, rfl⟩)
    rintro F H ⟨rfl, rfl⟩
    generalize lastS (l.take k) = a at *
    generalize lastS (l.take (k + 1)) = b at *
    by_cases hp : prints s
    · obtain ⟨h4, hf0⟩ := id hp
      have hbz : b.z = a.z := hmv.ly (by omega)
      rw [prtE, if_pos hp] at hK
      refine WA ?_
      refine aw_cond_t rfl ?_
      refine ZZ ?_
      refine aw_cutq (fun F H => F = [(11, .p 5 0 0), (12, .p 6 0 0), (13, .p 7 0 0), (14, .p 8 0 0), (15, .p 9 0 0)] ++ pofF l v k R.length hs.length fs.length g cp ch cf ∧ H = pofH R hs fs cp ch cf c3 rows3 n4 A4 ++ [.box (s.row.map .c), .box (a.row.map .c), .box (b.row.map .c), .box ((⟨a.x, a.y⟩ : Pt).row.map .c), .box ((⟨b.x, b.y⟩ : Pt).row.map .c)]) ?_ ?_ wk_aw
      · refine ZZ ?_
        refine aw_regionM [[(0, none), (1, none), (2, none), (3, none), (4, none), (5, none), (6, none), (7, none), (8, none), (9, none), (10, some [0, 1, 2, 3, 4, 5, 6, 7, 8, 9]), (11, some [0, 1, 2, 3, 4, 5, 6, 7, 8, 9]), (12, some [5, 6, 7, 8, 9]), (13, some [])], [(0, none), (1, none), (2, none), (3, none), (4, none), (5, none), (6, none), (7, none), (8, none), (9, none), (11, some [0, 1, 2, 3, 4, 5, 6, 7, 8, 9]), (10, some [0, 1, 2, 3, 4, 5, 6, 7, 8, 9]), (12, some [5, 6, 7, 8, 9]), (13, some [])]] hMixed (by kernel_rfl) ?_
        focus
          refine WM ?_
          refine am_two (by rfl) (by rfl) (by rfl) ?_ ?_
          rotate_left
          refine WN ?_
          rotate_right
          refine WN ?_
        all_goals first
          | exact wk_of [some 0, some 1, some 2, some 3, some 4, some 5, some 6, some 7, some 8, some 9] (fun _ => [(11, .p 5 0 0), (12, .p 6 0 0), (13, .p 7 0 0), (14, .p 8 0 0), (15, .p 9 0 0)] ++ pofF l v k R.length hs.length fs.length g cp ch cf) (fun _ => pofH R hs fs cp ch cf c3 rows3 n4 A4 ++ [.box (s.row.map .c), .box (a.row.map .c), .box (b.row.map .c), .box ((⟨a.x, a.y⟩ : Pt).row.map .c), .box ((⟨b.x, b.y⟩ : Pt).row.map .c)]) (by decide) (ZNL hE) ZCF ZCG (fun _ => ⟨rfl, rfl⟩)
          | exact wk_of [some 0, some 1, some 2, some 3, some 4, some 5, some 6, some 7, some 9, some 8] (fun _ => [(11, .p 5 0 0), (12, .p 6 0 0), (13, .p 7 0 0), (14, .p 8 0 0), (15, .p 9 0 0)] ++ pofF l v k R.length hs.length fs.length g cp ch cf) (fun _ => pofH R hs fs cp ch cf c3 rows3 n4 A4 ++ [.box (s.row.map .c), .box (a.row.map .c), .box (b.row.map .c), .box ((⟨a.x, a.y⟩ : Pt).row.map .c), .box ((⟨b.x, b.y⟩ : Pt).row.map .c)]) (by decide) (ZNL hE) ZCF ZCG (fun _ => ⟨rfl, rfl⟩)
      rintro F H ⟨rfl, rfl⟩
      refine WA ?_
      refine aw_cut (fun F H => ∃ (V : List PV) (pts : List Pt) (f : Int) (fs0 hs1 : List Int) (A : Option Addr) (cp ch cf c : Nat), (1 ≤ pts.length ∧ pts.length ≤ 1000000) ∧ fs0.length = V.length ∧ V.length ≤ 1000000 ∧ (0 ≤ f ∧ f ≤ 100000000000000000) ∧ prtK l (k + 1) = ⟨V.map (·.2.2) ++ [addP pts ⟨b.x, b.y⟩], hs1, fs0 ++ [f + s.f], true⟩ ∧
        F = [(0, .c (prog_r v l)), (6, .o 0 0 (V.map rowP ++ [[.s (.slice A pts.length c), B false]]).length cp), (7, .o 1 0 hs1.length ch), (8, .o 2 0 (fs0 ++ [f]).length cf), (11, .p 5 0 0), (15, .p 6 0 0), (19, .c (prog_r v l)), (20, .c (I (l.map Step.row).length)), (21, .c (I k))] ∧
        H = pofH (V.map rowP ++ [[.s (.slice A pts.length c), B false]]) hs1 (fs0 ++ [f]) cp ch cf c (pts.map Pt.row) pts.length A ++ [.box (s.row.map .c), .box ((⟨b.x, b.y⟩ : Pt).row.map .c)]) ?_ ?_ wk_aw
      · cases g with
        | true =>
          refine aw_cond_f rfl ?_
          refine ZZ ?_
          have hgo : (prtK l k).go = true := by rcases hD with ⟨_, h⟩ | ⟨V, pts, f, fs0, _, _, _, _, _, h, _⟩ <;> first | cases h | exact h.symm
          obtain ⟨V, pts, f, fs0, rfl, hps, hhs, rfl, hfs, _, rfl, rfl⟩ : PD1 l k R hs fs true c3 rows3 n4 A4 := by rcases hD with ⟨_, h⟩ | h; cases h; exact h
          have hK2 : prtK l (k + 1) = ⟨V.map (·.2.2) ++ [addP pts ⟨b.x, b.y⟩], hs, fs0 ++ [f + s.f], true⟩ := by rw [hK, if_pos hgo, ← hps, ← hfs, mapLast_snoc, mapLast_snoc, hhs]
          have hql := hko.q pts (by rw [← hps]; simp)
          have hfl := hko.f f (by rw [← hfs]; simp)
          have hll := hlens
          simp only [List.length_append, List.length_map, List.length_singleton] at hll
          refine wk_of [some 0, some 1, some 2, some 3, some 4, some 5, some 9] (fun _ => [(0, .c (prog_r v l)), (6, .o 0 0 (V.map rowP ++ [[.s (.slice A4 pts.length c3), B false]]).length cp), (7, .o 1 0 hs.length ch), (8, .o 2 0 (fs0 ++ [f]).length cf), (11, .p 5 0 0), (15, .p 6 0 0), (19, .c (prog_r v l)), (20, .c (I (l.map Step.row).length)), (21, .c (I k))]) (fun _ => pofH (V.map rowP ++ [[.s (.slice A4 pts.length c3), B false]]) hs (fs0 ++ [f]) cp ch cf c3 (pts.map Pt.row) pts.length A4 ++ [.box (s.row.map .c), .box ((⟨b.x, b.y⟩ : Pt).row.map .c)]) (by decide) (ZNL hE) ZCF ZCG (fun _ => ?_)
          exact ⟨V, pts, f, fs0, hs, A4, cp, ch, cf, c3, by omega, by omega, by omega, by omega, hK2, rfl, rfl⟩
        | false =>
          refine aw_cond_t rfl ?_
          refine aw_wk (K := fun F H => ∃ (V : List PV) (cp ch cf : Nat), V.map (·.2.2) = (prtK l k).ps ∧ hs = (prtK l k).hs ∧ fs = (prtK l k).fs ∧ (prtK l k).go = false ∧ F = [(0, .c (prog_r v l)), (6, .o 0 0 (V.map rowP).length cp), (7, .o 1 0 hs.length ch), (8, .o 2 0 fs.length cf), (11, .p 3 0 0), (12, .p 4 0 0), (14, .p 5 0 0), (15, .p 6 0 0), (19, .c (prog_r v l)), (20, .c (I (l.map Step.row).length)), (21, .c (I k))] ∧
            H = [.arr 96 2 cp (V.map rowP), .arr 3 1 ch (hs.map fun z => [I z]), .arr 3 1 cf (fs.map fun z => [I z]), .box (s.row.map .c), .box (a.row.map .c), .box ((⟨a.x, a.y⟩ : Pt).row.map .c), .box ((⟨b.x, b.y⟩ : Pt).row.map .c)]) ?_ ?_
          · skip
            generalize hgg : (false : Bool) = g at hD
            rcases hD with ⟨⟨V, rfl, hps, rfl, rfl, rfl⟩, hgo⟩ | ⟨V, pts, f, fs0, rfl, hps, rfl, rfl, hfs, rfl, rfl, rfl⟩
            · refine wk_of [some 0, some 1, some 2, some 5, some 6, some 8, some 9] (fun _ => [(0, .c (prog_r v l)), (6, .o 0 0 (V.map rowP).length cp), (7, .o 1 0 _ ch), (8, .o 2 0 _ cf), (11, .p 3 0 0), (12, .p 4 0 0), (14, .p 5 0 0), (15, .p 6 0 0), (19, .c (prog_r v l)), (20, .c (I (l.map Step.row).length)), (21, .c (I k))]) (fun _ => [.arr 96 2 cp (V.map rowP), .arr 3 1 ch ((prtK l k).hs.map fun z => [I z]), .arr 3 1 cf ((prtK l k).fs.map fun z => [I z]), .box (s.row.map .c), .box (a.row.map .c), .box ((⟨a.x, a.y⟩ : Pt).row.map .c), .box ((⟨b.x, b.y⟩ : Pt).row.map .c)]) (by decide) (ZNL hE) ZCF ZCG (fun _ => ?_)
              exact ⟨V, cp, ch, cf, hps, rfl, rfl, by first | rfl | exact hgg.symm, rfl, rfl⟩
            · refine wk_of [some 0, some 1, some 2, some 5, some 6, some 8, some 9] (fun _ => [(0, .c (prog_r v l)), (6, .o 0 0 (V.map rowP ++ [rowP (A4, c3, pts)]).length cp), (7, .o 1 0 _ ch), (8, .o 2 0 _ cf), (11, .p 3 0 0), (12, .p 4 0 0), (14, .p 5 0 0), (15, .p 6 0 0), (19, .c (prog_r v l)), (20, .c (I (l.map Step.row).length)), (21, .c (I k))]) (fun _ => [.arr 96 2 cp (V.map rowP ++ [rowP (A4, c3, pts)]), .arr 3 1 ch ((prtK l k).hs.map fun z => [I z]), .arr 3 1 cf ((fs0 ++ [f]).map fun z => [I z]), .box (s.row.map .c), .box (a.row.map .c), .box ((⟨a.x, a.y⟩ : Pt).row.map .c), .box ((⟨b.x, b.y⟩ : Pt).row.map .c)]) (by decide) (ZNL hE) ZCF (fun gg => ?_) (fun _ => ?_)
              · exact .arrz rfl (.last (.cons (.frz (q := 4) rfl (.frz rfl rfl (by rw [List.drop_zero, List.take_of_length_le (by simp)]) (by simp) rfl)) (.cons (.same _) .nil))) (.arr rfl rfl (.arr rfl rfl (.box rfl (C0 rfl) (.box rfl (C0 rfl) (.box rfl (C0 rfl) (.box rfl (C0 rfl) .nil))))))
              · exact ⟨V ++ [(A4, c3, pts)], cp, ch, cf, by rw [List.map_append, ← hps]; rfl, rfl, hfs, by first | rfl | exact hgg.symm, by rw [List.map_append (f := rowP)]; rfl, by rw [List.map_append (f := rowP)]; rfl⟩
          rintro F H ⟨V, cp, ch, cf, hps, hhs, hfs, hgo, rfl, rfl⟩
          have eVl : (V.map rowP).length = V.length := by simp
          have hvl : V.length = (prtK l k).ps.length := by rw [← hps]; simp
          have hl3 := hko.l3
          have hVok := rowP_ok V
          have hK2 : prtK l (k + 1) = ⟨V.map (·.2.2) ++ [addP [⟨a.x, a.y⟩] ⟨b.x, b.y⟩], hs ++ [a.z], fs ++ [0 + s.f], true⟩ := by rw [hK, if_neg (by rw [hgo]; decide), ← hps, hhs, hfs, hbz]
          refine ZZ ?_
          refine aw_regionM [[(0, none), (1, none), (6, none), (7, none), (8, none), (11, none), (2, some [0, 6, 7, 8, 11]), (3, none), (4, some [0, 6, 7, 8, 11]), (5, some [6, 7, 8, 11]), (9, some [0, 1, 6, 11, 3]), (10, some [11]), (12, some [0, 1, 6, 7, 8, 11, 3]), (13, some []), (14, none), (15, none), (16, none)], [(0, none), (1, none), (6, none), (7, none), (8, none), (11, none), (2, some [0, 6, 7, 8, 11]), (3, none), (4, some [0, 6, 7, 8, 11]), (5, some [6, 7, 8, 11]), (9, some [0, 1, 6, 11, 3]), (12, some [0, 1, 6, 7, 8, 11, 3]), (10, some [11]), (13, some []), (14, none), (15, none), (16, none)], [(0, none), (1, none), (6, none), (7, none), (8, none), (11, none), (2, some [0, 6, 7, 8, 11]), (3, none), (4, some [0, 6, 7, 8, 11]), (5, some [6, 7, 8, 11]), (12, some [0, 1, 6, 7, 8, 11, 3]), (9, some [0, 1, 6, 11, 3]), (10, some [11]), (13, some []), (14, none), (15, none), (16, none)], [(0, none), (1, none), (6, none), (7, none), (8, none), (11, none), (2, some [0, 6, 7, 8, 11]), (3, none), (4, some [0, 6, 7, 8, 11]), (9, some [0, 1, 6, 11, 3]), (5, some [6, 7, 8, 11]), (10, some [11]), (12, some [0, 1, 6, 7, 8, 11, 3]), (13, some []), (14, none), (15, none), (16, none)], [(0, none), (1, none), (6, none), (7, none), (8, none), (11, none), (2, some [0, 6, 7, 8, 11]), (3, none), (4, some [0, 6, 7, 8, 11]), (9, some [0, 1, 6, 11, 3]), (5, some [6, 7, 8, 11]), (12, some [0, 1, 6, 7, 8, 11, 3]), (10, some [11]), (13, some []), (14, none), (15, none), (16, none)], [(0, none), (1, none), (6, none), (7, none), (8, none), (11, none), (2, some [0, 6, 7, 8, 11]), (3, none), (4, some [0, 6, 7, 8, 11]), (9, some [0, 1, 6, 11, 3]), (12, some [0, 1, 6, 7, 8, 11, 3]), (5, some [6, 7, 8, 11]), (10, some [11]), (13, some []), (14, none), (15, none), (16, none)], [(0, none), (1, none), (6, none), (7, none), (8, none), (11, none), (2, some [0, 6, 7, 8, 11]), (3, none), (4, some [0, 6, 7, 8, 11]), (12, some [0, 1, 6, 7, 8, 11, 3]), (5, some [6, 7, 8, 11]), (9, some [0, 1, 6, 11, 3]), (10, some [11]), (13, some []), (14, none), (15, none), (16, none)], [(0, none), (1, none), (6, none), (7, none), (8, none), (11, none), (2, some [0, 6, 7, 8, 11]), (3, none), (4, some [0, 6, 7, 8, 11]), (12, some [0, 1, 6, 7, 8, 11, 3]), (9, some [0, 1, 6, 11, 3]), (5, some [6, 7, 8, 11]), (10, some [11]), (13, some []), (14, none), (15, none), (16, none)], [(0, none), (1, none), (6, none), (7, none), (8, none), (11, none), (2, some [0, 6, 7, 8, 11]), (3, none), (9, some [0, 1, 6, 11, 3]), (4, some [0, 6, 7, 8, 11]), (5, some [6, 7, 8, 11]), (10, some [11]), (12, some [0, 1, 6, 7, 8, 11, 3]), (13, some []), (14, none), (15, none), (16, none)], [(0, none), (1, none), (6, none), (7, none), (8, none), (11, none), (2, some [0, 6, 7, 8, 11]), (3, none), (9, some [0, 1, 6, 11, 3]), (4, some [0, 6, 7, 8, 11]), (5, some [6, 7, 8, 11]), (12, some [0, 1, 6, 7, 8, 11, 3]), (10, some [11]), (13, some []), (14, none), (15, none), (16, none)], [(0, none), (1, none), (6, none), (7, none), (8, none), (11, none), (2, some [0, 6, 7, 8, 11]), (3, none), (9, some [0, 1, 6, 11, 3]), (4, some [0, 6, 7, 8, 11]), (12, some [0, 1, 6, 7, 8, 11, 3]), (5, some [6, 7, 8, 11]), (10, some [11]), (13, some []), (14, none), (15, none), (16, none)], [(0, none), (1, none), (6, none), (7, none), (8, none), (11, none), (2, some [0, 6, 7, 8, 11]), (3, none), (9, some [0, 1, 6, 11, 3]), (12, some [0, 1, 6, 7, 8, 11, 3]), (4, some [0, 6, 7, 8, 11]), (5, some [6, 7, 8, 11]), (10, some [11]), (13, some []), (14, none), (15, none), (16, none)], [(0, none), (1, none), (6, none), (7, none), (8, none), (11, none), (2, some [0, 6, 7, 8, 11]), (3, none), (12, some [0, 1, 6, 7, 8, 11, 3]), (4, some [0, 6, 7, 8, 11]), (5, some [6, 7, 8, 11]), (9, some [0, 1, 6, 11, 3]), (10, some [11]), (13, some []), (14, none), (15, none), (16, none)], [(0, none), (1, none), (6, none), (7, none), (8, none), (11, none), (2, some [0, 6, 7, 8, 11]), (3, none), (12, some [0, 1, 6, 7, 8, 11, 3]), (4, some [0, 6, 7, 8, 11]), (9, some [0, 1, 6, 11, 3]), (5, some [6, 7, 8, 11]), (10, some [11]), (13, some []), (14, none), (15, none), (16, none)], [(0, none), (1, none), (6, none), (7, none), (8, none), (11, none), (2, some [0, 6, 7, 8, 11]), (3, none), (12, some [0, 1, 6, 7, 8, 11, 3]), (9, some [0, 1, 6, 11, 3]), (4, some [0, 6, 7, 8, 11]), (5, some [6, 7, 8, 11]), (10, some [11]), (13, some []), (14, none), (15, none), (16, none)], [(0, none), (1, none), (6, none), (7, none), (8, none), (11, none), (9, some [0, 1, 6, 11]), (2, some [0, 6, 7, 8, 11]), (3, none), (4, some [0, 6, 7, 8, 11]), (5, some [6, 7, 8, 11]), (10, some [11]), (12, some [0, 1, 6, 7, 8, 11, 3]), (13, some []), (14, none), (15, none), (16, none)], [(0, none), (1, none), (6, none), (7, none), (8, none), (11, none), (9, some [0, 1, 6, 11]), (2, some [0, 6, 7, 8, 11]), (3, none), (4, some [0, 6, 7, 8, 11]), (5, some [6, 7, 8, 11]), (12, some [0, 1, 6, 7, 8, 11, 3]), (10, some [11]), (13, some []), (14, none), (15, none), (16, none)], [(0, none), (1, none), (6, none), (7, none), (8, none), (11, none), (9, some [0, 1, 6, 11]), (2, some [0, 6, 7, 8, 11]), (3, none), (4, some [0, 6, 7, 8, 11]), (12, some [0, 1, 6, 7, 8, 11, 3]), (5, some [6, 7, 8, 11]), (10, some [11]), (13, some []), (14, none), (15, none), (16, none)], [(0, none), (1, none), (6, none), (7, none), (8, none), (11, none), (9, some [0, 1, 6, 11]), (2, some [0, 6, 7, 8, 11]), (3, none), (12, some [0, 1, 6, 7, 8, 11, 3]), (4, some [0, 6, 7, 8, 11]), (5, some [6, 7, 8, 11]), (10, some [11]), (13, some []), (14, none), (15, none), (16, none)], [(0, none), (1, none), (6, none), (7, none), (8, none), (11, none), (9, some [0, 1, 6, 11]), (12, some [0, 1, 6, 7, 8, 11]), (2, some [0, 6, 7, 8, 11]), (3, none), (4, some [0, 6, 7, 8, 11]), (5, some [6, 7, 8, 11]), (10, some [11]), (13, some []), (14, none), (15, none), (16, none)], [(0, none), (1, none), (6, none), (7, none), (8, none), (11, none), (12, some [0, 1, 6, 7, 8, 11]), (2, some [0, 6, 7, 8, 11]), (3, none), (4, some [0, 6, 7, 8, 11]), (5, some [6, 7, 8, 11]), (9, some [0, 1, 6, 11, 3]), (10, some [11]), (13, some []), (14, none), (15, none), (16, none)], [(0, none), (1, none), (6, none), (7, none), (8, none), (11, none), (12, some [0, 1, 6, 7, 8, 11]), (2, some [0, 6, 7, 8, 11]), (3, none), (4, some [0, 6, 7, 8, 11]), (9, some [0, 1, 6, 11, 3]), (5, some [6, 7, 8, 11]), (10, some [11]), (13, some []), (14, none), (15, none), (16, none)], [(0, none), (1, none), (6, none), (7, none), (8, none), (11, none), (12, some [0, 1, 6, 7, 8, 11]), (2, some [0, 6, 7, 8, 11]), (3, none), (9, some [0, 1, 6, 11, 3]), (4, some [0, 6, 7, 8, 11]), (5, some [6, 7, 8, 11]), (10, some [11]), (13, some []), (14, none), (15, none), (16, none)], [(0, none), (1, none), (6, none), (7, none), (8, none), (11, none), (12, some [0, 1, 6, 7, 8, 11]), (9, some [0, 1, 6, 11]), (2, some [0, 6, 7, 8, 11]), (3, none), (4, some [0, 6, 7, 8, 11]), (5, some [6, 7, 8, 11]), (10, some [11]), (13, some []), (14, none), (15, none), (16, none)]] hMixed (by kernel_rfl) ?_
          focus
            refine WM ?_
            refine am_three (by rfl) (by rfl) (by rfl) (by rfl) ?_ ?_ ?_
            rotate_left 2
            refine WM ?_
            refine am_two (by rfl) (by rfl) (by rfl) ?_ ?_
            rotate_left
            iterate 2 refine WX3 ?_
            refine am_ghost (i := 58) rfl fun A => ?_
            refine WX3 ?_
            refine WM ?_
            refine am_ef (i := 5) (by rfl) (by rfl) rfl rfl (Zapp (KA (t := 84) rfl)) ?_
            rintro _ _ ⟨_, cc, hcc, rfl, rfl⟩
            refine ⟨AGX, ?_⟩
            refine am_ef (i := 10) (by rfl) (by rfl) rfl rfl (Zapp (KA (t := 22) rfl)) ?_
            rintro _ _ ⟨_, cc, hcc, rfl, rfl⟩
            refine ⟨AGX, ?_⟩
            refine am_ef (i := 13) (by rfl) (by rfl) rfl rfl (Zapp (KA (t := 22) rfl)) ?_
            rintro _ _ ⟨_, cc, hcc, rfl, rfl⟩
            refine ⟨AGX, ?_⟩
            refine WN ?_
            rotate_right
            iterate 1 refine WX3 ?_
            refine am_ghost (i := 58) rfl fun A => ?_
            refine WX3 ?_
            refine am_two (by rfl) (by rfl) (by rfl) ?_ ?_
            rotate_left
            refine WM ?_
            refine am_ef (i := 5) (by rfl) (by rfl) rfl rfl (Zapp (KA (t := 84) rfl)) ?_
            rintro _ _ ⟨_, cc, hcc, rfl, rfl⟩
            refine ⟨AGX, ?_⟩
            refine am_ef (i := 10) (by rfl) (by rfl) rfl rfl (Zapp (KA (t := 22) rfl)) ?_
            rintro _ _ ⟨_, cc, hcc, rfl, rfl⟩
            refine ⟨AGX, ?_⟩
            refine am_ef (i := 13) (by rfl) (by rfl) rfl rfl (Zapp (KA (t := 22) rfl)) ?_
            rintro _ _ ⟨_, cc, hcc, rfl, rfl⟩
            refine ⟨AGX, ?_⟩
            refine WN ?_
            rotate_right
            refine WM ?_
            refine am_two (by rfl) (by rfl) (by rfl) ?_ ?_
            rotate_left
            refine WM ?_
            refine am_ef (i := 5) (by rfl) (by rfl) rfl rfl (Zapp (KA (t := 84) rfl)) ?_
            rintro _ _ ⟨_, cc, hcc, rfl, rfl⟩
            refine ⟨AGX, ?_⟩
            refine am_ef (i := 10) (by rfl) (by rfl) rfl rfl (Zapp (KA (t := 22) rfl)) ?_
            rintro _ _ ⟨_, cc, hcc, rfl, rfl⟩
            refine ⟨AGX, ?_⟩
            refine am_ef (i := 13) (by rfl) (by rfl) rfl rfl (Zapp (KA (t := 22) rfl)) ?_
            rintro _ _ ⟨_, cc, hcc, rfl, rfl⟩
            refine ⟨AGX, ?_⟩
            refine WN ?_
            rotate_right
            refine am_ef (i := 5) (by rfl) (by rfl) rfl rfl (Zapp (KA (t := 84) rfl)) ?_
            rintro _ _ ⟨_, cc, hcc, rfl, rfl⟩
            refine ⟨AGX, ?_⟩
            refine WM ?_
            refine am_ef (i := 10) (by rfl) (by rfl) rfl rfl (Zapp (KA (t := 22) rfl)) ?_
            rintro _ _ ⟨_, cc, hcc, rfl, rfl⟩
            refine ⟨AGX, ?_⟩
            refine am_ef (i := 13) (by rfl) (by rfl) rfl rfl (Zapp (KA (t := 22) rfl)) ?_
            rintro _ _ ⟨_, cc, hcc, rfl, rfl⟩
            refine ⟨AGX, ?_⟩
            refine WN ?_
            rotate_right
            refine WM ?_
            refine am_two (by rfl) (by rfl) (by rfl) ?_ ?_
            rotate_left
            iterate 2 refine WX3 ?_
            refine am_ghost (i := 58) rfl fun A => ?_
            refine WX3 ?_
            refine WM ?_
            refine am_ef (i := 5) (by rfl) (by rfl) rfl rfl (Zapp (KA (t := 84) rfl)) ?_
            rintro _ _ ⟨_, cc, hcc, rfl, rfl⟩
            refine ⟨AGX, ?_⟩
            refine am_ef (i := 10) (by rfl) (by rfl) rfl rfl (Zapp (KA (t := 22) rfl)) ?_
            rintro _ _ ⟨_, cc, hcc, rfl, rfl⟩
            refine ⟨AGX, ?_⟩
            refine am_ef (i := 13) (by rfl) (by rfl) rfl rfl (Zapp (KA (t := 22) rfl)) ?_
            rintro _ _ ⟨_, cc, hcc, rfl, rfl⟩
            refine ⟨AGX, ?_⟩
            refine WN ?_
            rotate_right
            iterate 1 refine WX3 ?_
            refine am_ghost (i := 58) rfl fun A => ?_
            refine WX3 ?_
            refine am_two (by rfl) (by rfl) (by rfl) ?_ ?_
            rotate_left
            refine WM ?_
            refine am_ef (i := 5) (by rfl) (by rfl) rfl rfl (Zapp (KA (t := 84) rfl)) ?_
            rintro _ _ ⟨_, cc, hcc, rfl, rfl⟩
            refine ⟨AGX, ?_⟩
            refine am_ef (i := 10) (by rfl) (by rfl) rfl rfl (Zapp (KA (t := 22) rfl)) ?_
            rintro _ _ ⟨_, cc, hcc, rfl, rfl⟩
            refine ⟨AGX, ?_⟩
            refine am_ef (i := 13) (by rfl) (by rfl) rfl rfl (Zapp (KA (t := 22) rfl)) ?_
            rintro _ _ ⟨_, cc, hcc, rfl, rfl⟩
            refine ⟨AGX, ?_⟩
            refine WN ?_
            rotate_right
            refine WM ?_
            refine am_two (by rfl) (by rfl) (by rfl) ?_ ?_
            rotate_left
            refine WM ?_
            refine am_ef (i := 5) (by rfl) (by rfl) rfl rfl (Zapp (KA (t := 84) rfl)) ?_
            rintro _ _ ⟨_, cc, hcc, rfl, rfl⟩
            refine ⟨AGX, ?_⟩
            refine am_ef (i := 10) (by rfl) (by rfl) rfl rfl (Zapp (KA (t := 22) rfl)) ?_
            rintro _ _ ⟨_, cc, hcc, rfl, rfl⟩
            refine ⟨AGX, ?_⟩
            refine am_ef (i := 13) (by rfl) (by rfl) rfl rfl (Zapp (KA (t := 22) rfl)) ?_
            rintro _ _ ⟨_, cc, hcc, rfl, rfl⟩
            refine ⟨AGX, ?_⟩
            refine WN ?_
            rotate_right
            refine am_ef (i := 5) (by rfl) (by rfl) rfl rfl (Zapp (KA (t := 84) rfl)) ?_
            rintro _ _ ⟨_, cc, hcc, rfl, rfl⟩
            refine ⟨AGX, ?_⟩
            refine am_two (by rfl) (by rfl) (by rfl) ?_ ?_
            rotate_left
            refine WM ?_
            refine am_ef (i := 10) (by rfl) (by rfl) rfl rfl (Zapp (KA (t := 22) rfl)) ?_
            rintro _ _ ⟨_, cc, hcc, rfl, rfl⟩
            refine ⟨AGX, ?_⟩
            refine am_ef (i := 13) (by rfl) (by rfl) rfl rfl (Zapp (KA (t := 22) rfl)) ?_
            rintro _ _ ⟨_, cc, hcc, rfl, rfl⟩
            refine ⟨AGX, ?_⟩
            refine WN ?_
            rotate_right
            refine am_ef (i := 10) (by rfl) (by rfl) rfl rfl (Zapp (KA (t := 22) rfl)) ?_
            rintro _ _ ⟨_, cc, hcc, rfl, rfl⟩
            refine ⟨AGX, ?_⟩
            refine WM ?_
            refine am_ef (i := 13) (by rfl) (by rfl) rfl rfl (Zapp (KA (t := 22) rfl)) ?_
            rintro _ _ ⟨_, cc, hcc, rfl, rfl⟩
            refine ⟨AGX, ?_⟩
            refine WN ?_
            rotate_right
            iterate 1 refine WX3 ?_
            refine am_ghost (i := 58) rfl fun A => ?_
            refine WX3 ?_
            refine am_three (by rfl) (by rfl) (by rfl) (by rfl) ?_ ?_ ?_
            rotate_left 2
            refine WM ?_
            refine am_two (by rfl) (by rfl) (by rfl) ?_ ?_
            rotate_left
            refine WM ?_
            refine am_ef (i := 5) (by rfl) (by rfl) rfl rfl (Zapp (KA (t := 84) rfl)) ?_
            rintro _ _ ⟨_, cc, hcc, rfl, rfl⟩
            refine ⟨AGX, ?_⟩
            refine am_ef (i := 10) (by rfl) (by rfl) rfl rfl (Zapp (KA (t := 22) rfl)) ?_
            rintro _ _ ⟨_, cc, hcc, rfl, rfl⟩
            refine ⟨AGX, ?_⟩
            refine am_ef (i := 13) (by rfl) (by rfl) rfl rfl (Zapp (KA (t := 22) rfl)) ?_
            rintro _ _ ⟨_, cc, hcc, rfl, rfl⟩
            refine ⟨AGX, ?_⟩
            refine WN ?_
            rotate_right
            refine WM ?_
            refine am_two (by rfl) (by rfl) (by rfl) ?_ ?_
            rotate_left
            refine WM ?_
            refine am_ef (i := 5) (by rfl) (by rfl) rfl rfl (Zapp (KA (t := 84) rfl)) ?_
            rintro _ _ ⟨_, cc, hcc, rfl, rfl⟩
            refine ⟨AGX, ?_⟩
            refine am_ef (i := 10) (by rfl) (by rfl) rfl rfl (Zapp (KA (t := 22) rfl)) ?_
            rintro _ _ ⟨_, cc, hcc, rfl, rfl⟩
            refine ⟨AGX, ?_⟩
            refine am_ef (i := 13) (by rfl) (by rfl) rfl rfl (Zapp (KA (t := 22) rfl)) ?_
            rintro _ _ ⟨_, cc, hcc, rfl, rfl⟩
            refine ⟨AGX, ?_⟩
            refine WN ?_
            rotate_right
            refine am_ef (i := 5) (by rfl) (by rfl) rfl rfl (Zapp (KA (t := 84) rfl)) ?_
            rintro _ _ ⟨_, cc, hcc, rfl, rfl⟩
            refine ⟨AGX, ?_⟩
            refine WM ?_
            refine am_ef (i := 10) (by rfl) (by rfl) rfl rfl (Zapp (KA (t := 22) rfl)) ?_
            rintro _ _ ⟨_, cc, hcc, rfl, rfl⟩
            refine ⟨AGX, ?_⟩
            refine am_ef (i := 13) (by rfl) (by rfl) rfl rfl (Zapp (KA (t := 22) rfl)) ?_
            rintro _ _ ⟨_, cc, hcc, rfl, rfl⟩
            refine ⟨AGX, ?_⟩
            refine WN ?_
            rotate_right
            refine WM ?_
            refine am_two (by rfl) (by rfl) (by rfl) ?_ ?_
            rotate_left
            refine WM ?_
            refine am_ef (i := 5) (by rfl) (by rfl) rfl rfl (Zapp (KA (t := 84) rfl)) ?_
            rintro _ _ ⟨_, cc, hcc, rfl, rfl⟩
            refine ⟨AGX, ?_⟩
            refine am_ef (i := 10) (by rfl) (by rfl) rfl rfl (Zapp (KA (t := 22) rfl)) ?_
            rintro _ _ ⟨_, cc, hcc, rfl, rfl⟩
            refine ⟨AGX, ?_⟩
            refine am_ef (i := 13) (by rfl) (by rfl) rfl rfl (Zapp (KA (t := 22) rfl)) ?_
            rintro _ _ ⟨_, cc, hcc, rfl, rfl⟩
            refine ⟨AGX, ?_⟩
            refine WN ?_
            rotate_right
            refine WM ?_
            refine am_two (by rfl) (by rfl) (by rfl) ?_ ?_
            rotate_left
            refine WM ?_
            refine am_ef (i := 5) (by rfl) (by rfl) rfl rfl (Zapp (KA (t := 84) rfl)) ?_
            rintro _ _ ⟨_, cc, hcc, rfl, rfl⟩
            refine ⟨AGX, ?_⟩
            refine am_ef (i := 10) (by rfl) (by rfl) rfl rfl (Zapp (KA (t := 22) rfl)) ?_
            rintro _ _ ⟨_, cc, hcc, rfl, rfl⟩
            refine ⟨AGX, ?_⟩
            refine am_ef (i := 13) (by rfl) (by rfl) rfl rfl (Zapp (KA (t := 22) rfl)) ?_
            rintro _ _ ⟨_, cc, hcc, rfl, rfl⟩
            refine ⟨AGX, ?_⟩
            refine WN ?_
            rotate_right
            refine am_ef (i := 5) (by rfl) (by rfl) rfl rfl (Zapp (KA (t := 84) rfl)) ?_
            rintro _ _ ⟨_, cc, hcc, rfl, rfl⟩
            refine ⟨AGX, ?_⟩
            refine am_two (by rfl) (by rfl) (by rfl) ?_ ?_
            rotate_left
            refine WM ?_
            refine am_ef (i := 10) (by rfl) (by rfl) rfl rfl (Zapp (KA (t := 22) rfl)) ?_
            rintro _ _ ⟨_, cc, hcc, rfl, rfl⟩
            refine ⟨AGX, ?_⟩
            refine am_ef (i := 13) (by rfl) (by rfl) rfl rfl (Zapp (KA (t := 22) rfl)) ?_
            rintro _ _ ⟨_, cc, hcc, rfl, rfl⟩
            refine ⟨AGX, ?_⟩
            refine WN ?_
            rotate_right
            refine am_ef (i := 10) (by rfl) (by rfl) rfl rfl (Zapp (KA (t := 22) rfl)) ?_
            rintro _ _ ⟨_, cc, hcc, rfl, rfl⟩
            refine ⟨AGX, ?_⟩
            refine WM ?_
            refine am_ef (i := 13) (by rfl) (by rfl) rfl rfl (Zapp (KA (t := 22) rfl)) ?_
            rintro _ _ ⟨_, cc, hcc, rfl, rfl⟩
            refine ⟨AGX, ?_⟩
            refine WN ?_
            rotate_right
            refine WM ?_
            refine am_three (by rfl) (by rfl) (by rfl) (by rfl) ?_ ?_ ?_
            rotate_left 2
            refine WM ?_
            refine am_two (by rfl) (by rfl) (by rfl) ?_ ?_
            rotate_left
            refine WM ?_
            refine am_ef (i := 5) (by rfl) (by rfl) rfl rfl (Zapp (KA (t := 84) rfl)) ?_
            rintro _ _ ⟨_, cc, hcc, rfl, rfl⟩
            refine ⟨AGX, ?_⟩
            refine am_ef (i := 10) (by rfl) (by rfl) rfl rfl (Zapp (KA (t := 22) rfl)) ?_
            rintro _ _ ⟨_, cc, hcc, rfl, rfl⟩
            refine ⟨AGX, ?_⟩
            refine am_ef (i := 13) (by rfl) (by rfl) rfl rfl (Zapp (KA (t := 22) rfl)) ?_
            rintro _ _ ⟨_, cc, hcc, rfl, rfl⟩
            refine ⟨AGX, ?_⟩
            refine WN ?_
            rotate_right
            refine am_ef (i := 5) (by rfl) (by rfl) rfl rfl (Zapp (KA (t := 84) rfl)) ?_
            rintro _ _ ⟨_, cc, hcc, rfl, rfl⟩
            refine ⟨AGX, ?_⟩
            refine WM ?_
            refine am_ef (i := 10) (by rfl) (by rfl) rfl rfl (Zapp (KA (t := 22) rfl)) ?_
            rintro _ _ ⟨_, cc, hcc, rfl, rfl⟩
            refine ⟨AGX, ?_⟩
            refine am_ef (i := 13) (by rfl) (by rfl) rfl rfl (Zapp (KA (t := 22) rfl)) ?_
            rintro _ _ ⟨_, cc, hcc, rfl, rfl⟩
            refine ⟨AGX, ?_⟩
            refine WN ?_
            rotate_right
            refine WM ?_
            refine am_two (by rfl) (by rfl) (by rfl) ?_ ?_
            rotate_left
            refine WM ?_
            refine am_ef (i := 5) (by rfl) (by rfl) rfl rfl (Zapp (KA (t := 84) rfl)) ?_
            rintro _ _ ⟨_, cc, hcc, rfl, rfl⟩
            refine ⟨AGX, ?_⟩
            refine am_ef (i := 10) (by rfl) (by rfl) rfl rfl (Zapp (KA (t := 22) rfl)) ?_
            rintro _ _ ⟨_, cc, hcc, rfl, rfl⟩
            refine ⟨AGX, ?_⟩
            refine am_ef (i := 13) (by rfl) (by rfl) rfl rfl (Zapp (KA (t := 22) rfl)) ?_
            rintro _ _ ⟨_, cc, hcc, rfl, rfl⟩
            refine ⟨AGX, ?_⟩
            refine WN ?_
            rotate_right
            refine am_ef (i := 5) (by rfl) (by rfl) rfl rfl (Zapp (KA (t := 84) rfl)) ?_
            rintro _ _ ⟨_, cc, hcc, rfl, rfl⟩
            refine ⟨AGX, ?_⟩
            refine am_two (by rfl) (by rfl) (by rfl) ?_ ?_
            rotate_left
            refine WM ?_
            refine am_ef (i := 10) (by rfl) (by rfl) rfl rfl (Zapp (KA (t := 22) rfl)) ?_
            rintro _ _ ⟨_, cc, hcc, rfl, rfl⟩
            refine ⟨AGX, ?_⟩
            refine am_ef (i := 13) (by rfl) (by rfl) rfl rfl (Zapp (KA (t := 22) rfl)) ?_
            rintro _ _ ⟨_, cc, hcc, rfl, rfl⟩
            refine ⟨AGX, ?_⟩
            refine WN ?_
            rotate_right
            refine am_ef (i := 10) (by rfl) (by rfl) rfl rfl (Zapp (KA (t := 22) rfl)) ?_
            rintro _ _ ⟨_, cc, hcc, rfl, rfl⟩
            refine ⟨AGX, ?_⟩
            refine WM ?_
            refine am_ef (i := 13) (by rfl) (by rfl) rfl rfl (Zapp (KA (t := 22) rfl)) ?_
            rintro _ _ ⟨_, cc, hcc, rfl, rfl⟩
            refine ⟨AGX, ?_⟩
            refine WN ?_
            rotate_right
            refine am_ef (i := 5) (by rfl) (by rfl) rfl rfl (Zapp (KA (t := 84) rfl)) ?_
            rintro _ _ ⟨_, cc, hcc, rfl, rfl⟩
            refine ⟨AGX, ?_⟩
            refine am_two (by rfl) (by rfl) (by rfl) ?_ ?_
            rotate_left
            refine WM ?_
            refine am_ef (i := 10) (by rfl) (by rfl) rfl rfl (Zapp (KA (t := 22) rfl)) ?_
            rintro _ _ ⟨_, cc, hcc, rfl, rfl⟩
            refine ⟨AGX, ?_⟩
            refine am_ef (i := 13) (by rfl) (by rfl) rfl rfl (Zapp (KA (t := 22) rfl)) ?_
            rintro _ _ ⟨_, cc, hcc, rfl, rfl⟩
            refine ⟨AGX, ?_⟩
            refine WN ?_
            rotate_right
            refine WM ?_
            refine am_two (by rfl) (by rfl) (by rfl) ?_ ?_
            rotate_left
            refine WM ?_
            refine am_ef (i := 10) (by rfl) (by rfl) rfl rfl (Zapp (KA (t := 22) rfl)) ?_
            rintro _ _ ⟨_, cc, hcc, rfl, rfl⟩
            refine ⟨AGX, ?_⟩
            refine am_ef (i := 13) (by rfl) (by rfl) rfl rfl (Zapp (KA (t := 22) rfl)) ?_
            rintro _ _ ⟨_, cc, hcc, rfl, rfl⟩
            refine ⟨AGX, ?_⟩
            refine WN ?_
            rotate_right
            refine am_ef (i := 10) (by rfl) (by rfl) rfl rfl (Zapp (KA (t := 22) rfl)) ?_
            rintro _ _ ⟨_, cc, hcc, rfl, rfl⟩
            refine ⟨AGX, ?_⟩
            refine WM ?_
            refine am_ef (i := 13) (by rfl) (by rfl) rfl rfl (Zapp (KA (t := 22) rfl)) ?_
            rintro _ _ ⟨_, cc, hcc, rfl, rfl⟩
            refine ⟨AGX, ?_⟩
            refine WN ?_
          all_goals first
            | (refine wk_of [some 0, some 1, some 2, some 7, some 8, some 3, some 6] (fun _ => [(0, .c (prog_r v l)), (6, .o 0 0 (V.map rowP ++ [[.s (.slice A 1 1), B false]]).length _), (7, .o 1 0 (hs ++ [a.z]).length _), (8, .o 2 0 (fs ++ [0]).length _), (11, .p 5 0 0), (15, .p 6 0 0), (19, .c (prog_r v l)), (20, .c (I (l.map Step.row).length)), (21, .c (I k))]) (fun _ => pofH (V.map rowP ++ [[.s (.slice A 1 1), B false]]) (hs ++ [a.z]) (fs ++ [0]) _ _ _ 1 ([(⟨a.x, a.y⟩ : Pt)].map Pt.row) 1 A ++ [.box (s.row.map .c), .box ((⟨b.x, b.y⟩ : Pt).row.map .c)]) (by decide) (ZNL hE) ZCF ZCG (fun _ => ?_))
            | (refine wk_of [some 0, some 1, some 2, some 8, some 9, some 3, some 6] (fun _ => [(0, .c (prog_r v l)), (6, .o 0 0 (V.map rowP ++ [[.s (.slice A 1 1), B false]]).length _), (7, .o 1 0 (hs ++ [a.z]).length _), (8, .o 2 0 (fs ++ [0]).length _), (11, .p 5 0 0), (15, .p 6 0 0), (19, .c (prog_r v l)), (20, .c (I (l.map Step.row).length)), (21, .c (I k))]) (fun _ => pofH (V.map rowP ++ [[.s (.slice A 1 1), B false]]) (hs ++ [a.z]) (fs ++ [0]) _ _ _ 1 ([(⟨a.x, a.y⟩ : Pt)].map Pt.row) 1 A ++ [.box (s.row.map .c), .box ((⟨b.x, b.y⟩ : Pt).row.map .c)]) (by decide) (ZNL hE) ZCF ZCG (fun _ => ?_))
            | (refine wk_of [some 0, some 1, some 2, some 9, some 10, some 3, some 6] (fun _ => [(0, .c (prog_r v l)), (6, .o 0 0 (V.map rowP ++ [[.s (.slice A 1 1), B false]]).length _), (7, .o 1 0 (hs ++ [a.z]).length _), (8, .o 2 0 (fs ++ [0]).length _), (11, .p 5 0 0), (15, .p 6 0 0), (19, .c (prog_r v l)), (20, .c (I (l.map Step.row).length)), (21, .c (I k))]) (fun _ => pofH (V.map rowP ++ [[.s (.slice A 1 1), B false]]) (hs ++ [a.z]) (fs ++ [0]) _ _ _ 1 ([(⟨a.x, a.y⟩ : Pt)].map Pt.row) 1 A ++ [.box (s.row.map .c), .box ((⟨b.x, b.y⟩ : Pt).row.map .c)]) (by decide) (ZNL hE) ZCF ZCG (fun _ => ?_))
          all_goals exact ⟨V, [⟨a.x, a.y⟩], 0, fs, hs ++ [a.z], A, _, _, _, 1, by simp, by rw [hfs, hko.l2, hvl], by omega, by omega, hK2, rfl, rfl⟩
      rintro F H ⟨V, pts, f, fs0, hs1, A, cp, ch, cf, c, hpl, hfsl, hVl, hfb, hK2, rfl, rfl⟩
      clear hD hlens hK
      obtain ⟨q, hq⟩ : ∃ q, pts[pts.length - 1]? = some q := ⟨_, List.getElem?_eq_getElem (by omega)⟩
      have hql : pts.getLast? = some q := by rw [List.getLast?_eq_getElem?]; exact hq
      have hrow2 : (pts.map Pt.row)[pts.length - 1]? = some q.row := by rw [List.getElem?_map, hq]; rfl
      generalize hRg : V.map rowP = R1
      have eR1 : R1.length = V.length := by rw [← hRg]; simp
      have eR : (R1 ++ [[CV.s (.slice A pts.length c), B false]]).length = R1.length + 1 := by simp
      have hrow1 : (R1 ++ [[CV.s (.slice A pts.length c), B false]])[R1.length]? = some [CV.s (.slice A pts.length c), B false] := by simp
      refine WA ?_
      refine ZR ?_
      iterate 2 refine WX1 ?_
      refine ZA (rd_subz (z := (R1.length : Int)) rfl rfl rfl (by omega) (by omega)) ?_
      refine WE ?_
      refine WR ?_
      refine al_nil ?_
      refine aseq_n ?_
      refine aw_thaw (i := 17) (b := 4) rfl rfl ?_
      refine ZZ ?_
      refine aw_regionT [(0, none), (1, none), (2, none), (3, none), (4, none), (5, none), (6, none), (7, none)] hMixed (by kernel_rfl) ?_
      iterate 3 refine WX2 ?_
      refine ZT rfl (rd_subz (z := ((pts.length - 1 : Nat) : Int)) rfl rfl rfl (by omega) (by omega)) ?_
      refine WP ?_
      refine at_nil ?_
      refine aseq_n ?_
      refine aw_cut (fun F H => ∃ (A' : Option Addr) (cp' c' : Nat), F = [(0, .c (prog_r v l)), (6, .o 0 0 (R1 ++ [[.s (.slice A' (addP pts ⟨b.x, b.y⟩).length c'), B false]]).length cp'), (7, .o 1 0 hs1.length ch), (8, .o 2 0 (fs0 ++ [f]).length cf), (9, .c (B true)), (11, .p 5 0 0), (16, .c (I R1.length)), (19, .c (prog_r v l)), (20, .c (I (l.map Step.row).length)), (21, .c (I k))] ∧
        H = pofH (R1 ++ [[.s (.slice A' (addP pts ⟨b.x, b.y⟩).length c'), B false]]) hs1 (fs0 ++ [f]) cp' ch cf c' ((addP pts ⟨b.x, b.y⟩).map Pt.row) (addP pts ⟨b.x, b.y⟩).length A' ++ [.box (s.row.map .c)]) ?_ ?_ wk_aw
      · refine aw_if rfl (fun hne => ?_) (fun heq => ?_)
        · have hadd : addP pts ⟨b.x, b.y⟩ = pts ++ [⟨b.x, b.y⟩] := by
            rw [addP, if_neg]
            rw [hql]
            rintro h
            injection h with h
            subst h
            exact hne ⟨rfl, rfl⟩
          rw [hadd]
          refine WR ?_
          refine al_ef rfl (Zapp (KA (t := 94) rfl)) ?_
          rintro _ _ ⟨_, cc, hcc, rfl, rfl⟩
          refine al_ghost (i := 91) rfl fun A2 => ?_
          refine WX1 ?_
          refine WE ?_
          all_goals have hlen : (pts ++ [(⟨b.x, b.y⟩ : Pt)]).length = pts.length + 1 := by simp
          all_goals have hset : (R1 ++ [[CV.s (.slice A pts.length c), B false]]).set R1.length [CV.s (.slice A2 (pts.length + 1) cc), B false] = R1 ++ [[CV.s (.slice A2 (pts.length + 1) cc), B false]] := by simp
          all_goals refine wk_of [some 0, some 1, some 2, some 3, some 8, some 5] (fun _ => [(0, .c (prog_r v l)), (6, .o 0 0 (R1 ++ [[CV.s (.slice A2 (pts.length + 1) cc), B false]]).length cp), (7, .o 1 0 hs1.length ch), (8, .o 2 0 (fs0 ++ [f]).length cf), (9, .c (B true)), (11, .p 5 0 0), (16, .c (I R1.length)), (19, .c (prog_r v l)), (20, .c (I (l.map Step.row).length)), (21, .c (I k))]) (fun _ => pofH (R1 ++ [[CV.s (.slice A2 (pts.length + 1) cc), B false]]) hs1 (fs0 ++ [f]) cp ch cf cc ((pts ++ [(⟨b.x, b.y⟩ : Pt)]).map Pt.row) (pts.length + 1) A2 ++ [.box (s.row.map .c)]) (by decide) (ZNL hE) ZCF ZCG (fun _ => ?_)
          all_goals exact ⟨A2, cp, cc, by rw [hlen], by rw [hlen]⟩
        · have hadd : addP pts ⟨b.x, b.y⟩ = pts := by
            obtain ⟨e1, e2⟩ := Decidable.not_not.1 heq
            rw [addP, if_pos]
            rw [hql, ← e1, ← e2]
          rw [hadd]
          refine ZZ ?_
          refine wk_of [some 0, some 1, some 2, some 3, some 4, some 5] (fun _ => [(0, .c (prog_r v l)), (6, .o 0 0 (R1 ++ [[.s (.slice A pts.length c), B false]]).length cp), (7, .o 1 0 hs1.length ch), (8, .o 2 0 (fs0 ++ [f]).length cf), (9, .c (B true)), (11, .p 5 0 0), (16, .c (I R1.length)), (19, .c (prog_r v l)), (20, .c (I (l.map Step.row).length)), (21, .c (I k))]) (fun _ => pofH (R1 ++ [[.s (.slice A pts.length c), B false]]) hs1 (fs0 ++ [f]) cp ch cf c (pts.map Pt.row) pts.length A ++ [.box (s.row.map .c)]) (by decide) (ZNL hE) ZCF ZCG (fun _ => ?_)
          exact ⟨A, cp, c, rfl, rfl⟩
      rintro F H ⟨A', cp', c', rfl, rfl⟩
      have eF : (fs0 ++ [f]).length = R1.length + 1 := by simp; omega
      have h3 : fs0.length = R1.length := by omega
      have hrow3 : ((fs0 ++ [f]).map fun z => [I z])[R1.length]? = some [I f] := by rw [← h3]; simp
      have hset3 : ((fs0 ++ [f]).map fun z => [I z]).set R1.length [I (f + s.f)] = (fs0 ++ [f + s.f]).map fun z => [I z] := by rw [← h3]; simp
      have hsf := hsg.2.2.2.2.1
      generalize hR2 : R1 ++ [[CV.s (.slice A' (addP pts ⟨b.x, b.y⟩).length c'), B false]] = R2
      refine ZZ ?_
      refine aw_regionT [(0, none), (1, none), (2, none), (3, none), (4, none), (5, none), (6, none), (7, none), (8, some [])] hMixed (by kernel_rfl) ?_
      refine WQ ?_
      refine WA ?_
      subst hR2
      subst hRg
      all_goals refine wk_of [some 0, some 1, some 2, some 3, some 4] (fun _ => pofF l v (k + 1) (V.map rowP ++ [[CV.s (.slice A' (addP pts ⟨b.x, b.y⟩).length c'), B false]]).length hs1.length (fs0 ++ [f + s.f]).length true cp' ch cf) (fun _ => pofH (V.map rowP ++ [[CV.s (.slice A' (addP pts ⟨b.x, b.y⟩).length c'), B false]]) hs1 (fs0 ++ [f + s.f]) cp' ch cf c' ((addP pts ⟨b.x, b.y⟩).map Pt.row) (addP pts ⟨b.x, b.y⟩).length A') (by decide) (ZNL hE) ZCF ZCG (fun _ => ?_)
      all_goals exact ⟨n - 1, by omega, k + 1, _, hs1, fs0 ++ [f + s.f], true, cp', ch, cf, c', _, _, A', by omega, .inr ⟨V, addP pts ⟨b.x, b.y⟩, f + s.f, fs0, rfl, by rw [hK2], by rw [hK2], rfl, by rw [hK2], by rw [hK2], rfl, rfl⟩, rfl, rfl⟩
    · have hK2 : prtK l (k + 1) = ⟨(prtK l k).ps, (prtK l k).hs, (prtK l k).fs, if stops s then false else (prtK l k).go⟩ := by rw [hK, prtE, if_neg hp]
      by_cases h4 : s.k = 4
      · have hf0 : ¬ 0 < s.f := fun h => hp ⟨h4, h⟩
        refine WA ?_
        refine aw_cond_f rfl ?_
        refine WA ?_
        refine aw_cond_t rfl ?_
        refine WA ?_
        refine WA ?_
        refine wk_of [some 0, some 1, some 2, some 3, some 4] (fun _ => pofF l v (k + 1) R.length hs.length fs.length false cp ch cf) (fun _ => pofH R hs fs cp ch cf c3 rows3 n4 A4) (by decide) (ZNL hE) ZCF ZCG (fun _ => ?_)
        rw [if_pos (.inr (.inl h4))] at hK2
        refine ⟨n - 1, by omega, k + 1, R, hs, fs, false, cp, ch, cf, c3, rows3, n4, A4, by omega, ?_, rfl, rfl⟩
        rcases hD with ⟨⟨V, rfl, hps, rfl, rfl, rfl⟩, hgo⟩ | ⟨V, pts, f, fs0, rfl, hps, rfl, rfl, hfs, rfl, rfl, rfl⟩
        · exact .inl ⟨⟨V, rfl, by rw [hK2]; exact hps, by rw [hK2], by rw [hK2], by rw [hK2]⟩, by first | rfl | exact hgo⟩
        · exact .inr ⟨V, pts, f, fs0, rfl, by rw [hK2]; exact hps, by rw [hK2], rfl, by rw [hK2]; exact hfs, by rw [hK2], rfl, rfl⟩
      · refine WA ?_
        refine aw_cond_f rfl ?_
        by_cases h3 : s.k = 3
        · refine WA ?_
          refine aw_cond_t rfl ?_
          refine WA ?_
          refine WA ?_
          refine wk_of [some 0, some 1, some 2, some 3, some 4] (fun _ => pofF l v (k + 1) R.length hs.length fs.length false cp ch cf) (fun _ => pofH R hs fs cp ch cf c3 rows3 n4 A4) (by decide) (ZNL hE) ZCF ZCG (fun _ => ?_)
          rw [if_pos (.inl h3)] at hK2
          refine ⟨n - 1, by omega, k + 1, R, hs, fs, false, cp, ch, cf, c3, rows3, n4, A4, by omega, ?_, rfl, rfl⟩
          rcases hD with ⟨⟨V, rfl, hps, rfl, rfl, rfl⟩, hgo⟩ | ⟨V, pts, f, fs0, rfl, hps, rfl, rfl, hfs, rfl, rfl, rfl⟩
          · exact .inl ⟨⟨V, rfl, by rw [hK2]; exact hps, by rw [hK2], by rw [hK2], by rw [hK2]⟩, by first | rfl | exact hgo⟩
          · exact .inr ⟨V, pts, f, fs0, rfl, by rw [hK2]; exact hps, by rw [hK2], rfl, by rw [hK2]; exact hfs, by rw [hK2], rfl, rfl⟩
        · by_cases h5 : s.k = 5
          · refine WA ?_
            refine aw_cond_t rfl ?_
            refine WA ?_
            refine WA ?_
            refine wk_of [some 0, some 1, some 2, some 3, some 4] (fun _ => pofF l v (k + 1) R.length hs.length fs.length false cp ch cf) (fun _ => pofH R hs fs cp ch cf c3 rows3 n4 A4) (by decide) (ZNL hE) ZCF ZCG (fun _ => ?_)
            rw [if_pos (.inr (.inr h5))] at hK2
            refine ⟨n - 1, by omega, k + 1, R, hs, fs, false, cp, ch, cf, c3, rows3, n4, A4, by omega, ?_, rfl, rfl⟩
            rcases hD with ⟨⟨V, rfl, hps, rfl, rfl, rfl⟩, hgo⟩ | ⟨V, pts, f, fs0, rfl, hps, rfl, rfl, hfs, rfl, rfl, rfl⟩
            · exact .inl ⟨⟨V, rfl, by rw [hK2]; exact hps, by rw [hK2], by rw [hK2], by rw [hK2]⟩, by first | rfl | exact hgo⟩
            · exact .inr ⟨V, pts, f, fs0, rfl, by rw [hK2]; exact hps, by rw [hK2], rfl, by rw [hK2]; exact hfs, by rw [hK2], rfl, rfl⟩
          · refine WA ?_
            refine aw_cond_f rfl ?_
            refine WA ?_
            refine wk_of [some 0, some 1, some 2, some 3, some 4] (fun _ => pofF l v (k + 1) R.length hs.length fs.length g cp ch cf) (fun _ => pofH R hs fs cp ch cf c3 rows3 n4 A4) (by decide) (ZNL hE) ZCF ZCG (fun _ => ?_)
            rw [if_neg (by unfold stops; omega)] at hK2
            refine ⟨n - 1, by omega, k + 1, R, hs, fs, g, cp, ch, cf, c3, rows3, n4, A4, by omega, ?_, rfl, rfl⟩
            rcases hD with ⟨⟨V, rfl, hps, rfl, rfl, rfl⟩, hgo⟩ | ⟨V, pts, f, fs0, rfl, hps, rfl, rfl, hfs, rfl, rfl, rfl⟩
            · exact .inl ⟨⟨V, rfl, by rw [hK2]; exact hps, by rw [hK2], by rw [hK2], by rw [hK2]⟩, by first | rfl | exact hgo⟩
            · exact .inr ⟨V, pts, f, fs0, rfl, by rw [hK2]; exact hps, by rw [hK2], rfl, by rw [hK2]; exact hfs, by rw [hK2], rfl, rfl⟩
  obtain rfl : k = l.length := by omega
  refine aw_wk (K := fun F H => ∃ (V : List PV) (cp ch cf : Nat), V.map (·.2.2) = (prtL l).ps ∧ F = [(6, .o 0 0 (V.map rowP).length cp), (7, .o 1 0 (prtL l).hs.length ch), (8, .o 2 0 (prtL l).fs.length cf)] ∧ H = [.arr 96 2 cp (V.map rowP), .arr 3 1 ch ((prtL l).hs.map fun z => [I z]), .arr 3 1 cf ((prtL l).fs.map fun z => [I z])]) ?_ ?_
  · rcases hD with ⟨⟨V, rfl, hps, rfl, rfl, rfl⟩, hgo⟩ | ⟨V, pts, f, fs0, rfl, hps, rfl, rfl, hfs, rfl, rfl, rfl⟩
    · refine wk_of [some 0, some 1, some 2] (fun _ => [(6, .o 0 0 (V.map rowP).length cp), (7, .o 1 0 _ ch), (8, .o 2 0 _ cf)]) (fun _ => [.arr 96 2 cp (V.map rowP), .arr 3 1 ch (_ : List (List CV)), .arr 3 1 cf (_ : List (List CV))]) (by decide) (ZNL hE) ZCF ZCG (fun _ => ?_)
      exact ⟨V, cp, ch, cf, hps, rfl, rfl⟩
    · refine wk_of [some 0, some 1, some 2] (fun _ => [(6, .o 0 0 (V.map rowP ++ [rowP (A4, c3, pts)]).length cp), (7, .o 1 0 (prtL l).hs.length ch), (8, .o 2 0 (fs0 ++ [f]).length cf)]) (fun _ => [.arr 96 2 cp (V.map rowP ++ [rowP (A4, c3, pts)]), .arr 3 1 ch ((prtL l).hs.map fun z => [I z]), .arr 3 1 cf ((fs0 ++ [f]).map fun z => [I z])]) (by decide) (ZNL hE) ZCF (fun gg => ?_) (fun _ => ?_)
      · exact .arrz rfl (.last (.cons (.frz (q := 4) rfl (.frz rfl rfl (by rw [List.drop_zero, List.take_of_length_le (by simp)]) (by simp) rfl)) (.cons (.same _) .nil))) (.arr rfl rfl (.arr rfl rfl .nil))
      · exact ⟨V ++ [(A4, c3, pts)], cp, ch, cf, by rw [List.map_append]; exact hps, by rw [List.map_append (f := rowP), show (prtL l).fs = fs0 ++ [f] from hfs.symm]; rfl, by rw [List.map_append (f := rowP), show (prtL l).fs = fs0 ++ [f] from hfs.symm]; rfl⟩
  rintro F H ⟨V, cp, ch, cf, hV, rfl, rfl⟩
  refine aw_wk (wk_of (K := fun F H => ∃ vp vh vf, F = [(6, .c (.r vp (V.map rowP))), (7, .c (ints_r vh (prtL l).hs)), (8, .c (ints_r vf (prtL l).fs))] ∧ H = []) [] (fun g => [(6, .c (.r (g (.o 0 0 (V.map rowP).length cp)) (V.map rowP))), (7, .c (ints_r (g (.o 1 0 (prtL l).hs.length ch)) (prtL l).hs)), (8, .c (ints_r (g (.o 2 0 (prtL l).fs.length cf)) (prtL l).fs))]) (fun _ => []) (by decide) (ZNL hE) (fun _ => .cons rfl (.frz rfl rfl (by rw [List.drop_zero, List.take_of_length_le (by simp)]) (by simp) rfl) (.cons rfl (.frz rfl rfl (by rw [List.drop_zero, List.take_of_length_le (by simp)]) (by simp) rfl) (.cons rfl (.frz rfl rfl (by rw [List.drop_zero, List.take_of_length_le (by simp)]) (by simp) rfl) .nil))) (fun _ => .nil) (fun _ => ⟨_, _, _, rfl, rfl⟩)) ?_
  rintro F H ⟨vp, vh, vf, rfl, rfl⟩
  have hb := prt_bnd h0 hV
  have hvq : ∀ p ∈ V, p.2.2.length ≤ 1000000 := fun p hp => by have := hb.2 p hp; omega
  have hbl := hb.1
  refine WR ?_
  refine al_ef rfl (ef_call0 false (fun _ => pathsfault_a V vp (by omega) hvq) rfl .fn rfl (by decide) (by kernel_rfl) rfl (fun _ => C0 rfl) (by simp)) ?_
  rintro _ _ ⟨_, _, _, ⟨rfl, rfl⟩, hF, hH⟩
  (try simp only [nsl, Nat.reduceAdd, Nat.reduceLT, Nat.reduceSub] at hF); (try simp only [nsl, Nat.reduceAdd, Nat.reduceLT, Nat.reduceSub] at hH); subst hF; subst hH
  refine WE ?_
  refine WA ?_
  rw [show V.map (·.2.2) = (prtL l).ps from hV]
  refine aw_if rfl (fun hne => ?_) (fun hne => ?_)
  · refine WA ?_
    exact aret_of (us := [.c (.r (.slice none 0 0) []), .c (.r (.slice none 0 0) []), .c (.r (.slice none 0 0) []), .c (I (pathsF (prtL l).ps))]) [] (fun _ => .t [.c (.r (.slice none 0 0) []), .c (.r (.slice none 0 0) []), .c (.r (.slice none 0 0) []), .c (I (pathsF (prtL l).ps))]) (fun _ => []) (.tmp rfl (.tmp rfl (.tmp rfl (.tmp rfl .nil)))) (by decide) (ZNK rfl) (fun _ => .tL (C0 rfl)) (fun _ => .nil) (fun _ => ⟨[], .slice none 0 0, .slice none 0 0, .slice none 0 0, by rw [hf, okL, okL, if_neg hne, if_neg hne]; rfl, by rw [hf, okL, if_neg hne]; rfl, rfl⟩)
  · refine ZZ ?_
    refine WA ?_
    have hz2 : pathsF (prtL l).ps = 0 := Decidable.not_not.1 hne
    rw [hz2] at hf
    exact aret_of (us := [.c (.r vp (V.map rowP)), .c (ints_r vh (prtL l).hs), .c (ints_r vf (prtL l).fs), .c (I 0)]) [] (fun _ => .t [.c (.r vp (V.map rowP)), .c (ints_r vh (prtL l).hs), .c (ints_r vf (prtL l).fs), .c (I 0)]) (fun _ => []) (.tmp rfl (.tmp rfl (.tmp rfl (.tmp rfl .nil)))) (by decide) (ZNK rfl) (fun _ => .tL (C0 rfl)) (fun _ => .nil) (fun _ => ⟨V, vp, vh, vf, by rw [hf, okL, okL, if_pos rfl, if_pos rfl], by rw [hf, okL, if_pos rfl, hV], rfl⟩)
end Go.Proofs.Ytpbedckdnoogpaa

/- From a walk by value to a given statement: the argument, what is left as it was. -/
namespace Go.Proofs.Ytpbedckdnoogpaa
open Go Go.ChangeShapes Go.WideShapes Go.ChangeAt Go.RowKit
set_option maxRecDepth 100000
theorem Try.own : ownKnob Try.prog.godebug = none := by kernel_rfl
theorem Try.cells3 : Try.prog.cellsOf 3 = 1 := by kernel_rfl
theorem Try.kids : Kids Try.prog (· < Try.prog.types.size) := kids_rows (by kernel_rfl) (by kernel_rfl)
theorem Try.full : ∀ t e, t < Try.prog.types.size → Try.prog.underlying t = some (.slice e) → 0 < Try.prog.cellsOf e := slices_full_of Try.prog (by kernel_rfl)

/-- An argument that is a slice of integers, as the logic has it. -/
theorem arg_ints {H : Type} {enc : TypeId × Value → H} {W : World} {A : Option Addr} {len cap fuel : Nat} {x : DataW H × List MemPlace} (hf : DataW.trod enc Try.prog W 0 (fun _ => true) true fuel 22 (Value.cells (.slice A len cap)).toList = some x) :
    ∃ zs, StrOk zs ∧ Good W (fun b => b < W.heap.size) (.r (.slice A len cap) (zs.map fun z => [I z])) := by
  rcases open_ints Try.underlying22 Try.underlying3 Try.cells3 hf with ⟨hcs, -⟩ | ⟨a, len', cap', zs, hcs, -, hl, hm, hz, -, hcell, hwf⟩
  · simp only [Value.cells, List.cons.injEq, Value.slice.injEq, and_true] at hcs
    obtain ⟨rfl, rfl, rfl⟩ := hcs
    exact ⟨[], ⟨fun _ h => (List.not_mem_nil h).elim, Nat.zero_le _⟩, .nil _ _⟩
  · simp only [Value.cells, List.cons.injEq, Value.slice.injEq, and_true] at hcs
    obtain ⟨rfl, rfl, rfl⟩ := hcs
    simp only [if_true] at hz
    refine ⟨zs.take len, ⟨fun z hz' => ?_, ?_⟩, ?_⟩
    · have := hwf z (List.mem_of_mem_take hz')
      simpa [Lit.wf, IntKind.min, IntKind.max, IntKind.signed, IntKind.bits, in64] using this
    · unfold maxLen at hm; simp; omega
    · rcases Nat.eq_zero_or_pos len with h0 | hp
      · subst h0
        rw [List.take_zero]
        exact .nil _ _
      · obtain ⟨gb, go, gs⟩ := a
        have hgs : gs = none := by simpa [Addr.add] using World.cell?_spot (hcell 0 (by omega))
        subst hgs
        have hlt : gb < W.heap.size := by
          have h := hcell 0 (by omega)
          rw [add_plain] at h
          rcases Nat.lt_or_ge gb W.heap.size with h1 | h1
          · exact h1
          · simp [World.cell?, h1] at h
        refine .r _ gb go 1 len cap (by simp; omega) hl hlt (fun row hr => ?_) (fun k j row u hk hj => ?_) (fun row hr u hu => ?_)
        · obtain ⟨z, -, rfl⟩ := List.mem_map.1 hr; rfl
        · rw [List.getElem?_map] at hk
          cases hz' : (zs.take len)[k]? with
          | none => rw [hz'] at hk; cases hk
          | some z =>
            rw [hz'] at hk
            simp only [Option.map_some, Option.some.injEq] at hk
            subst hk
            have hk2 : k < len := by
              have := (List.getElem?_eq_some_iff.1 hz').1
              simp at this; omega
            have hzk : zs[k]? = some z := by rw [List.getElem?_take, if_pos hk2] at hz'; exact hz'
            have h := hcell k (by omega)
            rw [add_plain, List.getD, hzk] at h
            match j, hj with
            | 0, hj =>
              simp only [List.getElem?_cons_zero, Option.some.injEq] at hj
              subst hj
              simpa [CV.den] using h
            | j + 1, hj => simp at hj
        · obtain ⟨z, -, rfl⟩ := List.mem_map.1 hr
          simp only [List.mem_singleton] at hu
          subst hu
          exact .s _
theorem rh_none (W : World) : RH W (fun b => b < W.heap.size) [] [] :=
  ⟨rfl, fun i _ _ h => by simp [atB] at h, fun i _ h => by simp [atB] at h, fun i _ h => by simp [atB] at h, fun _ h => h, fun i _ h => by simp at h⟩
/-- Behind a call that wrote into no block that was there. -/
theorem stp_below {W W' : World} (h : Stp W W' (fun B => ∃ i, atB ([] : List (Option Nat)) i = some B)) : ∀ b, b < W.heap.size → W'.heap[b]? = W.heap[b]? := fun b hb => h.block b hb (fun ⟨i, hi⟩ => by simp [atB] at hi)
theorem kept_all {W W' : World} {may : MemPlace → Prop} (h : Stp W W' (fun B => ∃ i, atB ([] : List (Option Nat)) i = some B)) : W.keptBut W' may := by
  refine ⟨h.os, h.output, fun i hi => ?_⟩
  rw [stp_below h i hi]
  cases W.heap[i]? with
  | none => rfl
  | some o =>
    cases o with
    | cells c t fr => exact ⟨rfl, rfl, rfl, fun _ _ => rfl⟩
    | map es clock => exact .inr ⟨rfl, rfl⟩
    | _ => rfl
theorem same_all {W W' : World} (h : Stp W W' (fun B => ∃ i, atB ([] : List (Option Nat)) i = some B)) {p : MemPlace} (hp : p.block < W.heap.size) : W.sameAt W' p := by
  have hb := stp_below h p.block hp
  cases p with
  | cell b off =>
    simp only [World.sameAt]
    exact World.cell?_of_block hb
  | map b => exact hb
end Go.Proofs.Ytpbedckdnoogpaa

/- The law ProgramsChecked, walked. -/
namespace Go.Proofs.Ytpbedckdnoogpaa
open Go Go.RowKit
set_option maxRecDepth 100000
-- NEWM
theorem last5k_a (v : Value) : ACalls Try.prog 17 [.c (.r v [(⟨3, 5, 0, 0, 0, 0⟩ : Step).row])] [] fun u H => u = .t [.a ((⟨5, 0, 0, 0, 0, 0, 0, false⟩ : Mach).row.map .c), .c (I 0)] ∧ H = [] := by
  have h := last_a [⟨3, 5, 0, 0, 0, 0⟩] v (by simp) (by simp [Step.ok, in64])
  rw [show progF [⟨3, 5, 0, 0, 0, 0⟩] = 0 from by decide, if_pos rfl, show lastS [⟨3, 5, 0, 0, 0, 0⟩] = ⟨5, 0, 0, 0, 0, 0, 0, false⟩ from by simp [lastS, afterS, relS, Mach.zero, IntWalk.wrap64_in 0 (by omega)]] at h
  exact h
theorem flat_rowk {K : CV → Prop} {l : List CV} (h : ∀ x ∈ l, x.flat) : FlatA K (.a (l.map .c)) := .a fun x hx => by
  obtain ⟨y, hy, rfl⟩ := List.mem_map.1 hx
  exact .c (.inl (h y hy))
theorem flat_machk {K : CV → Prop} (m : Mach) : FlatA K (.a (m.row.map .c)) := flat_rowk fun x hx => by
  simp only [List.mem_cons, List.not_mem_nil, or_false] at hx
  rcases hx with rfl | rfl | rfl | rfl | rfl | rfl | rfl | rfl <;> trivial
theorem flat_2k {K : CV → Prop} {x y : AV} (hx : FlatA K x) (hy : FlatA K y) : FlatA K (.t [x, y]) := .t fun z hz => by
  simp only [List.mem_cons, List.not_mem_nil, or_false] at hz
  rcases hz with rfl | rfl
  · exact hx
  · exact hy
theorem codedk_a : ACalls Try.prog 25 [] [] fun u H => u = .c (B true) ∧ H = [] := by
  refine acalls_of (N := 16) Try.func25 rfl rfl (by simp) fun E hE => ?_
  refine WA ?_
  refine WR ?_
  refine al_ef rfl (ef_call0 true (fun g => last5k_a (g (.o 0 0 1 1))) rfl .fn rfl (by decide) (by kernel_rfl) rfl ZCH (fun _ _ _ _ ⟨hu, hH⟩ => by rw [hu, hH]; exact ⟨flat_2k (flat_machk _) (.c (.inl trivial)), fun _ h => by cases h⟩)) ?_
  rintro _ _ ⟨_, _, _, ⟨rfl, rfl⟩, hF, hH⟩
  (try simp only [nsl, Nat.reduceAdd, Nat.reduceLT, Nat.reduceSub] at hF); (try simp only [nsl, Nat.reduceAdd, Nat.reduceLT, Nat.reduceSub] at hH); subst hF; subst hH
  refine WE ?_
  refine WA ?_
  exact aret_1 [] _ rfl rfl rfl (by decide) (ZNK rfl) (fun _ => .nil) ⟨rfl, rfl⟩
theorem prtF_zero {l : List Step} (h : prtF l = 0) : progF l = 0 := by
  unfold prtF at h
  split at h
  · contradiction
  · omega
theorem okV {l : List Step} {V : List PV} (h : V.map (·.2.2) = okL (prtF l) (prtL l).ps) : V.length ≤ 1000000 ∧ ∀ p ∈ V, p.2.2.length ≤ 1000000 := by
  unfold okL at h
  split at h
  · rename_i h0
    obtain ⟨h1, h2⟩ := prt_bnd (prtF_zero h0) h
    exact ⟨by omega, fun p hp => by have := h2 p hp; omega⟩
  · have : V = [] := List.map_eq_nil_iff.1 h
    subst this
    exact ⟨by simp, by simp⟩
theorem okH {l : List Step} : (okL (prtF l) (prtL l).hs).length ≤ 1000000 ∧ (okL (prtF l) (prtL l).fs).length ≤ 1000000 := by
  unfold okL
  split
  · rename_i h0
    obtain ⟨h1, h2⟩ := progF_zero (prtF_zero h0)
    have hk : (prtL l).ok l.length := prtK_ok h2 l.length
    have := hk.l1; have := hk.l2; have := hk.l3
    omega
  · simp
abbrev lawF (v1 : Value) (l1 : List Step) (least n : Int) (vk : Value) (KL : List Int) (vw : Value) (EL : List Int) (FF TM p1 : Int) (vp : Value) (U1 : List PV) (vh : Value) (HS : List Int) (vf : Value) (FS : List Int) (PF : Int) (vy : Value) (LL : List Step) (LF : Int) (T : Fm) : Fm :=
  (4, .c (prog_r v1 l1)) :: (5, .c (I least)) :: (6, .c (I n)) :: (7, .c (ints_r vk KL)) :: (8, .c (ints_r vw EL)) :: (9, .c (I FF)) :: (10, .c (I TM)) :: (11, .c (I p1)) :: (12, .c (.r vp (U1.map rowP))) :: (13, .c (ints_r vh HS)) :: (14, .c (ints_r vf FS)) :: (15, .c (I PF)) :: (16, .c (prog_r vy LL)) :: (17, .c (I LF)) :: (18, .c (I p1)) :: (19, .c (I FF)) :: T
set_option maxHeartbeats 8000000 in
theorem law_checked (v : Value) (zs : List Int) (hs : StrOk zs) : ACalls Try.prog 6 [.c (.r v (zs.map fun z => [I z]))] [] fun u H => u = .c (B true) := by
  refine acallsx_of false (N := 160) Try.func6 rfl rfl (by simp) fun E hE hP => ?_
  refine WA ?_
  refine WA ?_
  refine WR ?_
  refine al_ef rfl (ef_callm false (fun _ => steplist_a 14 v zs _ hs (by omega) (by omega) (by omega) (by omega)) rfl .fn rfl (by decide) (by kernel_rfl) rfl rfl (fun _g => .cons (.p rfl) (.cons (.c rfl) .nil)) (fun _g => .cons (.c rfl) (.cons (.c rfl) .nil)) (by simp)) ?_
  rintro F1 H1 ⟨_, _, _, _, ⟨l1, c1, a1, rfl, hq, hp1, hr1, hok1, hl1⟩, hF, hH⟩
  injection hq with hq1 hq2; subst hq1; subst hq2
  (try simp only [nsl, Nat.reduceAdd, Nat.reduceLT, Nat.reduceSub] at hF); (try simp only [nsl, Nat.reduceAdd, Nat.reduceLT, Nat.reduceSub] at hH); subst hF; subst hH
  refine WO ?_
  refine al_ef rfl (ef_callm true (fun _ => pick_a [0, 200, 210, -1, 501] _ _ _ _ hs (by omega) (by omega) (by simp) (by simp)) rfl .fn rfl (by decide) (by kernel_rfl) rfl rfl (fun _g => .cons (.p rfl) (.cons (.frz rfl rfl rfl rfl rfl) .nil)) (fun _g => .cons (.c rfl) (.cons (.c rfl) .nil)) (fun _ _ _ _ ⟨_, hu, hH, _⟩ => by rw [hu, hH]; exact ⟨.c (.inl trivial), strm_flat (.inr ⟨0, _, rfl, by simp⟩)⟩)) ?_
  rintro F1 H1 ⟨_, _, _, _, ⟨least, rfl, hq, hrmleast⟩, hF, hH⟩
  injection hq with hq1 hq2; subst hq1; subst hq2
  (try simp only [nsl, Nat.reduceAdd, Nat.reduceLT, Nat.reduceSub] at hF); (try simp only [nsl, Nat.reduceAdd, Nat.reduceLT, Nat.reduceSub] at hH); subst hF; subst hH
  refine WO ?_
  refine al_ef rfl (ef_callm true (fun _ => pick_a [1, 1, 2, 0, 9] _ _ _ _ hs (by omega) (by omega) (by simp) (by simp)) rfl .fn rfl (by decide) (by kernel_rfl) rfl rfl (fun _g => .cons (.p rfl) (.cons (.frz rfl rfl rfl rfl rfl) .nil)) (fun _g => .cons (.c rfl) (.cons (.c rfl) .nil)) (fun _ _ _ _ ⟨_, hu, hH, _⟩ => by rw [hu, hH]; exact ⟨.c (.inl trivial), strm_flat (.inr ⟨0, _, rfl, by simp⟩)⟩)) ?_
  rintro F1 H1 ⟨_, _, _, _, ⟨n, rfl, hq, hrmn⟩, hF, hH⟩
  injection hq with hq1 hq2; subst hq1; subst hq2
  (try simp only [nsl, Nat.reduceAdd, Nat.reduceLT, Nat.reduceSub] at hF); (try simp only [nsl, Nat.reduceAdd, Nat.reduceLT, Nat.reduceSub] at hH); subst hF; subst hH
  refine WO ?_
  refine al_nil ?_
  refine aseq_n ?_
  refine aw_wk (wk_of (K := fun F H => ∃ v1, F = [(4, .c (prog_r v1 l1)), (5, .c (I least)), (6, .c (I n))] ∧ H = []) [] (fun g => [(4, .c (prog_r (g (.o 1 0 l1.length c1)) l1)), (5, .c (I least)), (6, .c (I n))]) (fun _ => _) (by decide) (ZNL hE) (fun _g => .cons rfl (.frz rfl rfl (by rw [List.drop_zero, List.take_of_length_le (by simp)]) (by simp) rfl) (.cons rfl (.c rfl) (.cons rfl (.c rfl) .nil))) (fun _ => .nil) (fun g => ⟨_, rfl, rfl⟩)) ?_
  rintro F H ⟨v1, rfl, rfl⟩
  obtain ⟨FF, hFF⟩ : ∃ p, p = faultsF l1 least := ⟨_, rfl⟩
  obtain ⟨FL, hFL⟩ : ∃ W, W = (if FF = 0 then faultsK l1 least l1.length else []) := ⟨_, rfl⟩
  obtain ⟨KL, hKL0⟩ : ∃ W, W = FL.map (·.1) := ⟨_, rfl⟩
  obtain ⟨EL, hEL0⟩ : ∃ W, W = FL.map (·.2) := ⟨_, rfl⟩
  have hKL : (FL.map fun z => [I z.1]) = KL.map fun z => [I z] := by rw [hKL0, List.map_map]; rfl
  have hEL : (FL.map fun z => [I z.2]) = EL.map fun z => [I z] := by rw [hEL0, List.map_map]; rfl
  have hFLn : FL.length ≤ 1000 := by
    rw [hFL]; split
    · exact Nat.le_trans (faultsK_len _ _ _) (by omega)
    · simp
  have hKn : KL.length ≤ 1000 := by rw [hKL0, List.length_map]; exact hFLn
  have hEn : EL.length ≤ 1000 := by rw [hEL0, List.length_map]; exact hFLn
  obtain ⟨TM, hTM⟩ : ∃ p, p = timeF l1 := ⟨_, rfl⟩
  obtain ⟨p1, hP1⟩ : ∃ p, p = progF l1 := ⟨_, rfl⟩
  obtain ⟨HS, hHS⟩ : ∃ p, p = okL (prtF l1) (prtL l1).hs := ⟨_, rfl⟩
  obtain ⟨FS, hFS⟩ : ∃ p, p = okL (prtF l1) (prtL l1).fs := ⟨_, rfl⟩
  obtain ⟨PF, hPF⟩ : ∃ p, p = prtF l1 := ⟨_, rfl⟩
  obtain ⟨LL, hLL⟩ : ∃ p, p = layL l1 n := ⟨_, rfl⟩
  obtain ⟨LF, hLF⟩ : ∃ p, p = layF l1 n := ⟨_, rfl⟩
  have hHn : HS.length ≤ 1000000 := by rw [hHS]; exact okH.1
  have hFn : FS.length ≤ 1000000 := by rw [hFS]; exact okH.2
  have hLn : LL.length ≤ 1000000 := by
    rw [hLL, layL]; split
    · have h1 := outK_len (absS l1) n (absS l1).length
      have h2 : (absS l1).length ≤ l1.length := absFrom_len l1 _
      omega
    · simp
  refine aw_seq ?_
  refine WR ?_
  refine al_ef rfl (ef_call0 false (fun _ => faults_a l1 v1 least (by omega) hok1) rfl .fn rfl (by decide) (by kernel_rfl) rfl (fun _ => C0 rfl) (by simp)) ?_
  rintro _ _ ⟨_, _, _, ⟨vk, vw, rfl, rfl⟩, hF, hH⟩
  rw [← hFF, ← hFL, hKL, hEL] at hF
  (try simp only [nsl, Nat.reduceAdd, Nat.reduceLT, Nat.reduceSub] at hF); (try simp only [nsl, Nat.reduceAdd, Nat.reduceLT, Nat.reduceSub] at hH); subst hF; subst hH
  refine WE ?_
  refine WR ?_
  refine al_ef rfl (ef_call0 false (fun _ => time_a l1 v1 (by omega) hok1) rfl .fn rfl (by decide) (by kernel_rfl) rfl (fun _ => C0 rfl) (by simp)) ?_
  rintro _ _ ⟨_, _, _, ⟨rfl, rfl⟩, hF, hH⟩
  rw [← hTM, ← hP1] at hF
  (try simp only [nsl, Nat.reduceAdd, Nat.reduceLT, Nat.reduceSub] at hF); (try simp only [nsl, Nat.reduceAdd, Nat.reduceLT, Nat.reduceSub] at hH); subst hF; subst hH
  refine WE ?_
  refine WR ?_
  refine al_ef rfl (ef_call0 false (fun _ => printed_a l1 v1 (by omega) hok1) rfl .fn rfl (by decide) (by kernel_rfl) rfl (fun _ => C0 rfl) (by simp)) ?_
  rintro _ _ ⟨_, _, _, ⟨U1, vp, vh, vf, rfl, hU1, rfl⟩, hF, hH⟩
  rw [← hHS, ← hFS, ← hPF] at hF
  (try simp only [nsl, Nat.reduceAdd, Nat.reduceLT, Nat.reduceSub] at hF); (try simp only [nsl, Nat.reduceAdd, Nat.reduceLT, Nat.reduceSub] at hH); subst hF; subst hH
  refine WE ?_
  refine WR ?_
  refine al_ef rfl (ef_call0 false (fun _ => layer_a l1 v1 n (by omega) hok1) rfl .fn rfl (by decide) (by kernel_rfl) rfl (fun _ => C0 rfl) (by simp)) ?_
  rintro _ _ ⟨_, _, _, ⟨vy, rfl, rfl⟩, hF, hH⟩
  rw [← hLL, ← hLF] at hF
  (try simp only [nsl, Nat.reduceAdd, Nat.reduceLT, Nat.reduceSub] at hF); (try simp only [nsl, Nat.reduceAdd, Nat.reduceLT, Nat.reduceSub] at hH); subst hF; subst hH
  refine WE ?_
  refine WR ?_
  refine al_ef rfl (ef_call0 false (fun _ => qsteps_a l1 v1 (by omega)) rfl .fn rfl (by decide) (by kernel_rfl) rfl (fun _ => C0 rfl) (by simp)) ?_
  rintro _ _ ⟨_, _, _, ⟨rfl, rfl⟩, hF, hH⟩
  rw [← hP1] at hF
  (try simp only [nsl, Nat.reduceAdd, Nat.reduceLT, Nat.reduceSub] at hF); (try simp only [nsl, Nat.reduceAdd, Nat.reduceLT, Nat.reduceSub] at hH); subst hF; subst hH
  refine WO ?_
  refine al_nil ?_
  refine aseq_n ?_
  have hv1 := okV hU1
  refine aw_seq ?_
  refine aw_cut (fun F H => F = lawF v1 l1 least n vk KL vw EL FF TM p1 vp U1 vh HS vf FS PF vy LL LF [(20, .c (I p1)), (21, .c (I p1))] ∧ H = []) ?_ ?_ wk_aw
  · have hfp : FF = if p1 ≠ 0 then p1 else if least < 0 ∨ 500 < least then 1 else 0 := by rw [hFF, faultsF, hP1]
    by_cases hl0 : least < 0
    · have hee : firstK [p1, 1] = FF := by rw [hfp]; simp only [firstK]; by_cases hq : p1 ≠ 0 <;> first | rw [if_pos hq, if_pos hq] | rw [if_neg hq, if_neg hq, if_pos (by decide), if_pos (.inl hl0)]
      refine WR ?_
      refine al_ef rfl (ef_call0 false (fun _ => whenk_a true 1) rfl .fn rfl (by decide) (by kernel_rfl) rfl (fun _ => C0 rfl) (by simp)) ?_
      rintro _ _ ⟨_, _, _, ⟨rfl, rfl⟩, hF, hH⟩
      (try simp only [nsl, Nat.reduceAdd, Nat.reduceLT, Nat.reduceSub] at hF); (try simp only [nsl, Nat.reduceAdd, Nat.reduceLT, Nat.reduceSub] at hH); subst hF; subst hH
      refine WO ?_
      refine al_ef rfl (ef_call0 true (fun _ => errsk_a [p1, 1] _ (by simp)) rfl .fn rfl (by decide) (by kernel_rfl) rfl (fun _g => .cons (.frz rfl rfl rfl rfl rfl) .nil) (fun _ _ _ _ ⟨hu, hH⟩ => by rw [hu, hH]; exact ⟨.c (.inl trivial), by simp⟩)) ?_
      rintro _ _ ⟨_, _, _, ⟨rfl, rfl⟩, hF, hH⟩
      rw [hee] at hF
      (try simp only [nsl, Nat.reduceAdd, Nat.reduceLT, Nat.reduceSub] at hF); (try simp only [nsl, Nat.reduceAdd, Nat.reduceLT, Nat.reduceSub] at hH); subst hF; subst hH
      refine WE ?_
      exact wk_of [] (fun _ => lawF v1 l1 least n vk KL vw EL FF TM p1 vp U1 vh HS vf FS PF vy LL LF [(20, .c (I p1)), (21, .c (I p1))]) (fun _ => []) (by decide) (ZNL hE) ZCF (fun _ => .nil) (fun _ => ⟨rfl, rfl⟩)
    · by_cases hl5 : 500 < least
      · have hee : firstK [p1, 1] = FF := by rw [hfp]; simp only [firstK]; by_cases hq : p1 ≠ 0 <;> first | rw [if_pos hq, if_pos hq] | rw [if_neg hq, if_neg hq, if_pos (by decide), if_pos (.inr hl5)]
        refine WR ?_
        refine al_ef rfl (ef_call0 false (fun _ => whenk_a true 1) rfl .fn rfl (by decide) (by kernel_rfl) rfl (fun _ => C0 rfl) (by simp)) ?_
        rintro _ _ ⟨_, _, _, ⟨rfl, rfl⟩, hF, hH⟩
        (try simp only [nsl, Nat.reduceAdd, Nat.reduceLT, Nat.reduceSub] at hF); (try simp only [nsl, Nat.reduceAdd, Nat.reduceLT, Nat.reduceSub] at hH); subst hF; subst hH
        refine WO ?_
        refine al_ef rfl (ef_call0 true (fun _ => errsk_a [p1, 1] _ (by simp)) rfl .fn rfl (by decide) (by kernel_rfl) rfl (fun _g => .cons (.frz rfl rfl rfl rfl rfl) .nil) (fun _ _ _ _ ⟨hu, hH⟩ => by rw [hu, hH]; exact ⟨.c (.inl trivial), by simp⟩)) ?_
        rintro _ _ ⟨_, _, _, ⟨rfl, rfl⟩, hF, hH⟩
        rw [hee] at hF
        (try simp only [nsl, Nat.reduceAdd, Nat.reduceLT, Nat.reduceSub] at hF); (try simp only [nsl, Nat.reduceAdd, Nat.reduceLT, Nat.reduceSub] at hH); subst hF; subst hH
        refine WE ?_
        exact wk_of [] (fun _ => lawF v1 l1 least n vk KL vw EL FF TM p1 vp U1 vh HS vf FS PF vy LL LF [(20, .c (I p1)), (21, .c (I p1))]) (fun _ => []) (by decide) (ZNL hE) ZCF (fun _ => .nil) (fun _ => ⟨rfl, rfl⟩)
      · have hee : firstK [p1, 0] = FF := by rw [hfp]; simp only [firstK]; by_cases hq : p1 ≠ 0 <;> first | rw [if_pos hq, if_pos hq] | rw [if_neg hq, if_neg hq, if_neg (by decide), if_neg (by omega)]
        refine WR ?_
        refine al_ef rfl (ef_call0 false (fun _ => whenk_a false 1) rfl .fn rfl (by decide) (by kernel_rfl) rfl (fun _ => C0 rfl) (by simp)) ?_
        rintro _ _ ⟨_, _, _, ⟨rfl, rfl⟩, hF, hH⟩
        (try simp only [nsl, Nat.reduceAdd, Nat.reduceLT, Nat.reduceSub] at hF); (try simp only [nsl, Nat.reduceAdd, Nat.reduceLT, Nat.reduceSub] at hH); subst hF; subst hH
        refine WO ?_
        refine al_ef rfl (ef_call0 true (fun _ => errsk_a [p1, 0] _ (by simp)) rfl .fn rfl (by decide) (by kernel_rfl) rfl (fun _g => .cons (.frz rfl rfl rfl rfl rfl) .nil) (fun _ _ _ _ ⟨hu, hH⟩ => by rw [hu, hH]; exact ⟨.c (.inl trivial), by simp⟩)) ?_
        rintro _ _ ⟨_, _, _, ⟨rfl, rfl⟩, hF, hH⟩
        rw [hee] at hF
        (try simp only [nsl, Nat.reduceAdd, Nat.reduceLT, Nat.reduceSub] at hF); (try simp only [nsl, Nat.reduceAdd, Nat.reduceLT, Nat.reduceSub] at hH); subst hF; subst hH
        refine WE ?_
        exact wk_of [] (fun _ => lawF v1 l1 least n vk KL vw EL FF TM p1 vp U1 vh HS vf FS PF vy LL LF [(20, .c (I p1)), (21, .c (I p1))]) (fun _ => []) (by decide) (ZNL hE) ZCF (fun _ => .nil) (fun _ => ⟨rfl, rfl⟩)
  rintro F H ⟨rfl, rfl⟩
  refine WA ?_
  refine WA ?_
  refine WR ?_
  refine al_nil ?_
  refine aseq_n ?_
  refine aw_cut (fun F H => ∃ wk ww, F = lawF v1 l1 least n vk KL vw EL FF TM p1 vp U1 vh HS vf FS PF vy LL LF [(20, .c (I p1)), (21, .c (I p1)), (22, .c (ints_r wk KL)), (23, .c (ints_r ww EL))] ∧ H = []) ?_ ?_ wk_aw
  · refine aw_if rfl (fun h0 => ?_) (fun h0 => ?_)
    · have hFL0 : FL = faultsK l1 least l1.length := by rw [hFL, if_pos h0]
      refine WR ?_
      refine al_ef rfl (ef_call0 false (fun _ => qfaults_a l1 v1 least (by omega) hok1) rfl .fn rfl (by decide) (by kernel_rfl) rfl (fun _ => C0 rfl) (by simp)) ?_
      rintro _ _ ⟨_, _, _, ⟨wk, ww, rfl, rfl⟩, hF, hH⟩
      rw [← hFL0, hKL, hEL] at hF
      (try simp only [nsl, Nat.reduceAdd, Nat.reduceLT, Nat.reduceSub] at hF); (try simp only [nsl, Nat.reduceAdd, Nat.reduceLT, Nat.reduceSub] at hH); subst hF; subst hH
      refine WE ?_
      refine wk_of [] (fun _ => lawF v1 l1 least n vk KL vw EL FF TM p1 vp U1 vh HS vf FS PF vy LL LF [(20, .c (I p1)), (21, .c (I p1)), (22, .c (ints_r wk KL)), (23, .c (ints_r ww EL))]) (fun _ => []) (by decide) (ZNL hE) ZCF (fun _ => .nil) (fun _ => ⟨wk, ww, rfl, rfl⟩)
    · have hk0 : KL = [] := by rw [hKL0, hFL, if_neg h0]; rfl
      have he0 : EL = [] := by rw [hEL0, hFL, if_neg h0]; rfl
      subst hk0
      subst he0
      refine ZZ ?_
      refine wk_of [] (fun _ => lawF v1 l1 least n vk [] vw [] FF TM p1 vp U1 vh HS vf FS PF vy LL LF [(20, .c (I p1)), (21, .c (I p1)), (22, .c (.r (.slice none 0 0) [])), (23, .c (.r (.slice none 0 0) []))]) (fun _ => []) (by decide) (ZNL hE) ZCF (fun _ => .nil) (fun _ => ⟨_, _, rfl, rfl⟩)
  rintro F H ⟨wk, ww, rfl, rfl⟩
  refine WA ?_
  refine WA ?_
  refine WA ?_
  refine WA ?_
  refine WR ?_
  refine al_nil ?_
  refine aseq_n ?_
  refine aw_cut (fun F H => ∃ (wp wh wf wy : Value) (U2 : List PV), U2.map (·.2.2) = okL (prtF l1) (prtL l1).ps ∧ F = lawF v1 l1 least n vk KL vw EL FF TM p1 vp U1 vh HS vf FS PF vy LL LF [(20, .c (I PF)), (21, .c (I LF)), (22, .c (ints_r wk KL)), (23, .c (ints_r ww EL)), (24, .c (I TM)), (25, .c (.r wp (U2.map rowP))), (26, .c (ints_r wh HS)), (27, .c (ints_r wf FS)), (28, .c (prog_r wy LL))] ∧ H = []) ?_ ?_ wk_aw
  · refine aw_if rfl (fun hp0 => ?_) (fun hp0 => ?_)
    · have h0 : progF l1 = 0 := by omega
      have hz := progF_zero h0
      have hTM0 : TM = timeK l1 l1.length := by rw [hTM, timeF, if_pos h0]
      refine WR ?_
      refine al_ef rfl (ef_call0 false (fun _ => qtime_a l1 v1 hz.1 hz.2 hok1) rfl .fn rfl (by decide) (by kernel_rfl) rfl (fun _ => C0 rfl) (by simp)) ?_
      rintro _ _ ⟨_, _, _, ⟨rfl, rfl⟩, hF, hH⟩
      rw [← hTM0] at hF
      (try simp only [nsl, Nat.reduceAdd, Nat.reduceLT, Nat.reduceSub] at hF); (try simp only [nsl, Nat.reduceAdd, Nat.reduceLT, Nat.reduceSub] at hH); subst hF; subst hH
      refine WE ?_
      refine WR ?_
      refine al_ef rfl (ef_call0 false (fun _ => qprinted_a l1 v1 h0 hok1) rfl .fn rfl (by decide) (by kernel_rfl) rfl (fun _ => C0 rfl) (by simp)) ?_
      rintro _ _ ⟨_, _, _, ⟨U2, wp, wh, wf, rfl, hU2, rfl⟩, hF, hH⟩
      rw [← hHS, ← hFS, ← hPF] at hF
      (try simp only [nsl, Nat.reduceAdd, Nat.reduceLT, Nat.reduceSub] at hF); (try simp only [nsl, Nat.reduceAdd, Nat.reduceLT, Nat.reduceSub] at hH); subst hF; subst hH
      refine WE ?_
      refine WR ?_
      refine al_ef rfl (ef_call0 false (fun _ => qlayer_a l1 v1 n (by omega) h0 hok1) rfl .fn rfl (by decide) (by kernel_rfl) rfl (fun _ => C0 rfl) (by simp)) ?_
      rintro _ _ ⟨_, _, _, ⟨wy, rfl, rfl⟩, hF, hH⟩
      rw [← hLL, ← hLF] at hF
      (try simp only [nsl, Nat.reduceAdd, Nat.reduceLT, Nat.reduceSub] at hF); (try simp only [nsl, Nat.reduceAdd, Nat.reduceLT, Nat.reduceSub] at hH); subst hF; subst hH
      refine WE ?_
      refine wk_of [] (fun _ => lawF v1 l1 least n vk KL vw EL FF TM p1 vp U1 vh HS vf FS PF vy LL LF [(20, .c (I PF)), (21, .c (I LF)), (22, .c (ints_r wk KL)), (23, .c (ints_r ww EL)), (24, .c (I TM)), (25, .c (.r wp (U2.map rowP))), (26, .c (ints_r wh HS)), (27, .c (ints_r wf FS)), (28, .c (prog_r wy LL))]) (fun _ => []) (by decide) (ZNL hE) ZCF (fun _ => .nil) (fun _ => ⟨wp, wh, wf, wy, U2, hU2, rfl, rfl⟩)
    · have h0 : ¬ progF l1 = 0 := by omega
      have q1 : TM = 0 := by rw [hTM, timeF, if_neg h0]
      have q2 : PF = p1 := by rw [hPF, prtF, if_pos h0, hP1]
      have qn : ¬ prtF l1 = 0 := by rw [← hPF, q2]; exact hp0
      have q3 : HS = [] := by rw [hHS, okL, if_neg qn]
      have q4 : FS = [] := by rw [hFS, okL, if_neg qn]
      have q5 : LF = p1 := by rw [hLF, layF, if_pos h0, hP1]
      have q6 : LL = [] := by rw [hLL, layL, if_neg (by rw [← hLF, q5]; exact hp0)]
      have q7 : okL (prtF l1) (prtL l1).ps = [] := by rw [okL, if_neg qn]
      refine ZZ ?_
      rw [q1, q2, q3, q4, q5, q6, q7]
      refine wk_of [] (fun _ => lawF v1 l1 least n vk KL vw EL FF 0 p1 vp U1 vh [] vf [] p1 vy [] p1 [(20, .c (I p1)), (21, .c (I p1)), (22, .c (ints_r wk KL)), (23, .c (ints_r ww EL)), (24, .c (I 0)), (25, .c (.r (.slice none 0 0) [])), (26, .c (.r (.slice none 0 0) [])), (27, .c (.r (.slice none 0 0) [])), (28, .c (.r (.slice none 0 0) []))]) (fun _ => []) (by decide) (ZNL hE) ZCF (fun _ => .nil) (fun _ => ⟨_, _, _, _, [], rfl, rfl, rfl⟩)
  rintro F H ⟨wp, wh, wf, wy, U2, hU2, rfl, rfl⟩
  have hv2 := okV hU2
  refine WR ?_
  first | refine ZS ?_ | (refine G1 rfl ?_; refine al_ef rfl (ef_call0 false (fun _ => eqI_a KL KL vk wk (by omega) (by omega)) rfl .fn rfl (by decide) (by kernel_rfl) rfl (fun _ => C0 rfl) (by simp)) ?_; rintro _ _ ⟨_, _, _, ⟨bm, rfl, rfl, hbm⟩, hF, hH⟩; obtain rfl : bm = true := hbm.2 rfl; (try simp only [nsl, Nat.reduceAdd, Nat.reduceLT, Nat.reduceSub] at hF); (try simp only [nsl, Nat.reduceAdd, Nat.reduceLT, Nat.reduceSub] at hH); subst hF; subst hH) | skip
  refine WO ?_
  first | refine ZS ?_ | (refine G1 rfl ?_; refine al_ef rfl (ef_call0 false (fun _ => eqE_a EL EL vw ww (by omega) (by omega)) rfl .fn rfl (by decide) (by kernel_rfl) rfl (fun _ => C0 rfl) (by simp)) ?_; rintro _ _ ⟨_, _, _, ⟨bm, rfl, rfl, hbm⟩, hF, hH⟩; obtain rfl : bm = true := hbm.2 rfl; (try simp only [nsl, Nat.reduceAdd, Nat.reduceLT, Nat.reduceSub] at hF); (try simp only [nsl, Nat.reduceAdd, Nat.reduceLT, Nat.reduceSub] at hH); subst hF; subst hH) | skip
  refine WO ?_
  first | refine ZS ?_ | (refine G1 rfl ?_; refine al_ef rfl (ef_call0 false (fun _ => samepaths_a U1 U2 vp wp hv1.1 hv2.1 hv1.2 hv2.2) rfl .fn rfl (by decide) (by kernel_rfl) rfl (fun _ => C0 rfl) (by simp)) ?_; rintro _ _ ⟨_, _, _, ⟨bm, rfl, rfl, hbm⟩, hF, hH⟩; obtain rfl : bm = true := hbm.2 (hU1.trans hU2.symm); (try simp only [nsl, Nat.reduceAdd, Nat.reduceLT, Nat.reduceSub] at hF); (try simp only [nsl, Nat.reduceAdd, Nat.reduceLT, Nat.reduceSub] at hH); subst hF; subst hH) | skip
  refine WO ?_
  first | refine ZS ?_ | (refine G1 rfl ?_; refine al_ef rfl (ef_call0 false (fun _ => eqI_a HS HS vh wh (by omega) (by omega)) rfl .fn rfl (by decide) (by kernel_rfl) rfl (fun _ => C0 rfl) (by simp)) ?_; rintro _ _ ⟨_, _, _, ⟨bm, rfl, rfl, hbm⟩, hF, hH⟩; obtain rfl : bm = true := hbm.2 rfl; (try simp only [nsl, Nat.reduceAdd, Nat.reduceLT, Nat.reduceSub] at hF); (try simp only [nsl, Nat.reduceAdd, Nat.reduceLT, Nat.reduceSub] at hH); subst hF; subst hH) | skip
  refine WO ?_
  first | refine ZS ?_ | (refine G1 rfl ?_; refine al_ef rfl (ef_call0 false (fun _ => eqI_a FS FS vf wf (by omega) (by omega)) rfl .fn rfl (by decide) (by kernel_rfl) rfl (fun _ => C0 rfl) (by simp)) ?_; rintro _ _ ⟨_, _, _, ⟨bm, rfl, rfl, hbm⟩, hF, hH⟩; obtain rfl : bm = true := hbm.2 rfl; (try simp only [nsl, Nat.reduceAdd, Nat.reduceLT, Nat.reduceSub] at hF); (try simp only [nsl, Nat.reduceAdd, Nat.reduceLT, Nat.reduceSub] at hH); subst hF; subst hH) | skip
  refine WO ?_
  first | refine ZS ?_ | (refine G1 rfl ?_; refine al_ef rfl (ef_call0 false (fun _ => eqS_a LL LL vy wy (by omega) (by omega)) rfl .fn rfl (by decide) (by kernel_rfl) rfl (fun _ => C0 rfl) (by simp)) ?_; rintro _ _ ⟨_, _, _, ⟨bm, rfl, rfl, hbm⟩, hF, hH⟩; obtain rfl : bm = true := hbm.2 rfl; (try simp only [nsl, Nat.reduceAdd, Nat.reduceLT, Nat.reduceSub] at hF); (try simp only [nsl, Nat.reduceAdd, Nat.reduceLT, Nat.reduceSub] at hH); subst hF; subst hH) | skip
  refine WO ?_
  first | refine ZS ?_ | (refine G1 rfl ?_; refine al_ef rfl (ef_call0 false (fun _ => codedk_a) rfl .fn rfl (by decide) (by kernel_rfl) rfl (fun _ => C0 rfl) (by simp)) ?_; rintro _ _ ⟨_, _, _, ⟨rfl, rfl⟩, hF, hH⟩; (try simp only [nsl, Nat.reduceAdd, Nat.reduceLT, Nat.reduceSub] at hF); (try simp only [nsl, Nat.reduceAdd, Nat.reduceLT, Nat.reduceSub] at hH); subst hF; subst hH) | skip
  refine WE ?_
  exact aret_1 [] [] rfl rfl rfl (by decide) (ZNK rfl) (fun _ => .nil) rfl
end Go.Proofs.Ytpbedckdnoogpaa

/- The statement ProgramsChecked: for every input the law returns true, and the input reads as it did. Conditions: none. -/
namespace Go.Proofs.Ytpbedckdnoogpaa
open Go Go.ChangeShapes Go.WideShapes Go.ChangeAt Go.RowKit
set_option maxRecDepth 100000
theorem programsChecked_contract (H : Type) (enc : TypeId × Value → H) (W : World) (base : Nat) (args : Array Value) (ds gs : List (DataW H)) (before : List MemPlace)
    (hval : ∀ (j : Nat) t v, Try.f6.params[j]? = some t → args[j]? = some v → Value.okWide Try.prog W .any base t v)
    (hW : DataW.Whole enc Try.prog Try.f6.params.toList Rows.programsCheckedSpec.vars false W args.toList ds gs before) :
    Calls Try.prog 6 args W fun e W' => ∃ v, e = .returned v ∧ Rows.programsCheckedSpec.post enc Try.prog Try.f6 false true false false W args v W' := by
  have hW' := hW
  obtain ⟨p, q, hA0, hV, rfl, hfz, hnd⟩ := hW
  have hA : DataW.TrodAll enc Try.prog W 0 (fun _ => true) true Try.f6.params.toList args.toList ds p := hA0
  rw [Try.params6] at hA hval
  obtain ⟨v0, d0, rfl, rfl, h0⟩ := trodAll_one hA
  obtain ⟨rfl, rfl⟩ := trodVars_none hV
  obtain ⟨A, len, cap, rfl⟩ := okWide_slice Try.underlying22 (hval 0 22 v0 rfl rfl)
  obtain ⟨fuel, hf⟩ := h0
  obtain ⟨zs, hs, hg⟩ := arg_ints hf
  refine (law_checked (.slice A len cap) zs hs (fun b => b < W.heap.size) [] W (rh_none W) (fun x hx => by rw [List.mem_singleton.1 hx]; exact .c hg)).mono ?_
  rintro e W' ⟨u, H', ρ', S', rfl, rfl, -, -, hst, -⟩
  refine ⟨_, rfl, [d0], [], p ++ [], [], p, [], hW', trodAll_mk1 (shut_bool Try.underlying4 true), ?_, by exact rfl, kept_all hst, fun h => by cases h⟩
  refine trodAll_mk1 ⟨fuel, DataW.trod_stays Try.kids (fun {t e} => Try.full t e) (fun h => by cases h) (of_decide_eq_true (by kernel_rfl)) hf (fun q hq => same_all hst ?_) (fun q hq => ?_)⟩
  · exact hW'.lt q (by simpa using hq)
  · exact decide_eq_true (hW'.lt q (by simpa using hq))
set_option maxRecDepth 100000 in
theorem programsChecked_lifted (os : Os) (started : os.Started) (H : Type) (enc : TypeId × Value → H) :
    ReturnsInHanded {} Try.checked os 6 .any (Rows.programsCheckedSpec.pre6 enc Try.prog Try.f6 Rows.programsCheckedRow.domain false) (Rows.programsCheckedSpec.post enc Try.prog Try.f6 false true false false) := by
  refine returnsInHanded_of_change (C := Try.checked) Try.own started (by kernel_rfl) Try.func6
    (ChangeSpec.witness6 (enc := enc) (C := Try.checked) false ⟨#[], #[.slice none 0 0], []⟩ 8 (by kernel_rfl) (by kernel_rfl) (by kernel_rfl) (by kernel_rfl)) ?_
  intro W base args ds gs before hval hW _ _
  exact programsChecked_contract H enc W base args ds gs before hval hW
theorem programsChecked_holds : Rows.ProgramsCheckedSaid :=
  OpenClaim.holds_of_wide 6 Try.f6 rfl rfl rfl rfl rfl rfl rfl ⟨rfl, rfl, rfl, rfl, rfl⟩ rfl rfl rfl rfl rfl (by kernel_rfl) Try.func6 (by kernel_rfl)
    (of_decide_eq_true (by kernel_rfl)) (by unfold Func.isWrapper; first | (rw [if_pos (by decide +kernel)]; kernel_rfl) | (rw [if_neg (by decide +kernel)]; exact ⟨rfl, rfl⟩))
    (fun os started H enc _ => programsChecked_lifted os started H enc)
end Go.Proofs.Ytpbedckdnoogpaa
