/- Plans of layers, by value: the program's and the reference's. -/
import Derived.Test.YtfilfijammemfaaGreatDoorQbe
set_option linter.unusedSimpArgs false
set_option linter.unusedVariables false
/- Cells of the stream, by value. -/
-- NEWM
namespace Go.Proofs.YtfilfijammemfaaGreatDoor
open Go Go.RowKit
set_option maxRecDepth 100000
structure StrC (c : Cel) : Prop where
 x : -10000 ≤ c.x ∧ c.x ≤ 10000
 y : -10000 ≤ c.y ∧ c.y ≤ 10000
 h : c.rows.length ≤ 1000
 r : ∀ r ∈ c.rows, r.length ≤ 1000
theorem StrC.near {c : Cel} (h : StrC c) (hr : RCel c) : NCel c := ⟨hr, h.x, h.y⟩
theorem normC_str {st : Int} {L : List Spot} (hst : 0 ≤ st ∧ st ≤ 100) (hL : ∀ p ∈ L, (-90 ≤ p.1 ∧ p.1 ≤ 90) ∧ (-90 ≤ p.2 ∧ p.2 ≤ 90)) : StrC (normC st L).1 := by
 unfold normC
 by_cases e : L = []
 ·rw [if_pos e]; exact ⟨(by decide : -10000 ≤ (0 : Int) ∧ (0 : Int) ≤ 10000), (by decide : -10000 ≤ (0 : Int) ∧ (0 : Int) ≤ 10000), by simp, fun r h => (by cases h)⟩
 rw [if_neg e]
 split
 ·exact ⟨(by decide : -10000 ≤ (0 : Int) ∧ (0 : Int) ≤ 10000), (by decide : -10000 ≤ (0 : Int) ∧ (0 : Int) ≤ 10000), by simp, fun r h => (by cases h)⟩
 rename_i hs
 split
 ·exact ⟨(by decide : -10000 ≤ (0 : Int) ∧ (0 : Int) ≤ 10000), (by decide : -10000 ≤ (0 : Int) ∧ (0 : Int) ≤ 10000), by simp, fun r h => (by cases h)⟩
 obtain ⟨⟨p1, hp1, e1⟩, ⟨p2, hp2, e2⟩, ⟨p3, hp3, e3⟩, ⟨p4, hp4, e4⟩⟩ := x0_at e
 have b1 := hL p1 hp1
 have b3 := hL p3 hp3
 have mb : ∀ z : Int, -90 ≤ z ∧ z ≤ 90 → -10000 ≤ z * st ∧ z * st ≤ 10000 := fun z hz => by
  have h1 : (z * st).natAbs ≤ 90 * 100 := by rw [Int.natAbs_mul]; exact Nat.mul_le_mul (by omega) (by omega)
  omega
 unfold celN
 rw [if_neg e]
 refine ⟨mb _ (by omega), mb _ (by omega), by simp only [List.length_map, List.length_range]; omega, fun r hr => ?_⟩
 obtain ⟨i, _, rfl⟩ := List.mem_map.1 hr
 rw [rowB_len]; omega
theorem normC_rst {st : Int} {L : List Spot} (h : RCel (normC st L).1) : (normC st L).1.st = st := by
 revert h
 unfold normC
 split
 ·exact fun _ => rfl
 split
 ·exact fun h => absurd h.st (show ¬ (2 ≤ (0 : Int) ∧ (0 : Int) ≤ 10000 ∧ (0 : Int).tmod 2 = 0) by decide)
 split
 ·exact fun h => absurd h.st (show ¬ (2 ≤ (0 : Int) ∧ (0 : Int) ≤ 10000 ∧ (0 : Int).tmod 2 = 0) by decide)
 ·intro _; unfold celN; split <;> rfl
theorem some_a (vals : List (List UInt8)) (q v : Value) (zs : List Int) (a : Int) (hs : StrOk zs) (h0 : 0 ≤ a) (h1 : a ≤ 1000000000) (hv : vals ≠ []) (hl : vals.length ≤ 1000000) :
    ACalls Tryz.prog 31 [.p 0 0 0, .c (.r q (tR vals))] [strm v zs a] fun u H => ∃ r, u = .c (T r) ∧ H = [strm v zs (a + 1)] ∧ r ∈ vals := by
 have hp : 0 < vals.length := List.length_pos_iff.2 hv
 have e1 : (tR vals).length = vals.length := by simp
 refine acalls_of (N := 12) Tryz.func31 rfl rfl (by simp) fun E hE => ?_
 refine WA ?_
 refine WR ?_
 refine al_ef rfl (ef_callm false (fun _ => next_a _ _ _ _ hs (by omega) (by omega) (by simp only [in64]; omega)) rfl .fn rfl (by decide) (by kernel_rfl) rfl rfl (fun _g => .cons (.p rfl) (.cons (.c rfl) .nil)) (fun _g => .cons (.c rfl) (.cons (.c rfl) .nil)) (by simp)) ?_
 rintro F1 H1 ⟨_, _, _, _, ⟨r, rfl, hq, hr1, hr2⟩, hF, hH⟩
 injection hq with hq1 hq2; subst hq1; subst hq2
 (refine NST hF hH ?_; clear hF hH; rintro rfl rfl)
 obtain ⟨i, rfl⟩ : ∃ i : Nat, r = i := ⟨r.toNat, by omega⟩
 have hk : i < vals.length := by have := hr2 (by rw [e1]; omega); rw [e1] at this; omega
 obtain ⟨z, hz0⟩ : ∃ z, vals[i]? = some z := ⟨_, List.getElem?_eq_getElem hk⟩
 have hrow : (tR vals)[i]? = some [T z] := by rw [List.getElem?_map, hz0]; rfl
 refine ZA (rd_indexq rfl (KE (t := 26) rfl) rfl rfl (i := i) rfl hrow rfl) ?_
 refine WE ?_
 refine aret_1 [some 0] _ rfl rfl rfl (by decide) (ZNK rfl) ZCH ?_
 exact ⟨_, rfl, rfl, List.mem_of_getElem? hz0⟩
set_option maxHeartbeats 4000000 in
theorem acells_w (st : Int) (hst : 1 ≤ st ∧ st ≤ 100) (v : Value) (zs : List Int) (a : Int) (hs : StrOk zs) (h0 : 0 ≤ a) (h1 : a ≤ 800000000) : ACalls Tryz.prog 5 [.p 0 0 0, .c (I st)] [strm v zs a] fun u H => ∃ (v' : Value) (c : Cel) (a' : Int), u = celA v' c ∧ H = [strm v zs a'] ∧ a ≤ a' ∧ a' ≤ a + 200 ∧ StrC c ∧ (RCel c → c.st = st) := by
 have hmul : ∀ z : Int, -3 ≤ z ∧ z ≤ 3 → -300 ≤ st * z ∧ st * z ≤ 300 ∧ (st * z).tdiv st = z := fun z hz => by
  have h1 : (st * z).natAbs ≤ 100 * 3 := by rw [Int.natAbs_mul]; exact Nat.mul_le_mul (by omega) (by omega)
  exact ⟨by omega, by omega, by rw [Int.mul_comm]; exact Int.mul_tdiv_cancel _ (by omega)⟩
 refine acalls_of (N := 73) Tryz.func5 rfl rfl (by simp) fun E hE => ?_
 refine WA ?_
 refine WR ?_
 refine al_ef rfl (ef_callm false (fun _ => range_a 1 7 _ _ _ hs (by omega) (by omega) (by omega) (by omega) (by omega) (by omega)) rfl .fn rfl (by decide) (by kernel_rfl) rfl rfl (fun _g => .cons (.p rfl) (.cons (.c rfl) (.cons (.c rfl) .nil))) (fun _g => .cons (.c rfl) (.cons (.c rfl) .nil)) (by simp)) ?_
 rintro F1 H1 ⟨_, _, _, _, ⟨rr, ar, rfl, hq, hr3, hr4, hr1, hr2, _⟩, hF, hH⟩
 injection hq with hq1 hq2; subst hq1; subst hq2
 (refine NST hF hH ?_; clear hF hH; rintro rfl rfl)
 have h64r : in64 rr := by simp only [in64]; omega
 refine WE ?_
 obtain ⟨wd, rfl⟩ : ∃ wd : Nat, rr = wd := ⟨rr.toNat, by omega⟩
 have hwd : 1 ≤ wd ∧ wd ≤ 7 := by omega
 refine WR ?_
 refine al_ef rfl (ef_callm false (fun _ => range_a (-3) 3 _ _ _ hs (by omega) (by omega) (by omega) (by omega) (by omega) (by omega)) rfl .fn rfl (by decide) (by kernel_rfl) rfl rfl (fun _g => .cons (.p rfl) (.cons (.c rfl) (.cons (.c rfl) .nil))) (fun _g => .cons (.c rfl) (.cons (.c rfl) .nil)) (by simp)) ?_
 rintro F1 H1 ⟨_, _, _, _, ⟨rX, aX, rfl, hq, hr3, hr4, hr1, hr2, _⟩, hF, hH⟩
 injection hq with hq1 hq2; subst hq1; subst hq2
 (refine NST hF hH ?_; clear hF hH; rintro rfl rfl)
 have hmz := hmul rX (by omega)
 refine WO ?_
 refine al_ef rfl (ef_callm false (fun _ => range_a (-3) 3 _ _ _ hs (by omega) (by omega) (by omega) (by omega) (by omega) (by omega)) rfl .fn rfl (by decide) (by kernel_rfl) rfl rfl (fun _g => .cons (.p rfl) (.cons (.c rfl) (.cons (.c rfl) .nil))) (fun _g => .cons (.c rfl) (.cons (.c rfl) .nil)) (by simp)) ?_
 rintro F1 H1 ⟨_, _, _, _, ⟨rY, aY, rfl, hq, hr3, hr4, hr1, hr2, _⟩, hF, hH⟩
 injection hq with hq1 hq2; subst hq1; subst hq2
 (refine NST hF hH ?_; clear hF hH; rintro rfl rfl)
 have hmz := hmul rY (by omega)
 refine WE ?_
 obtain ⟨hX1, hX2, hX3⟩ := hmul rX (by omega)
 obtain ⟨hY1, hY2, hY3⟩ := hmul rY (by omega)
 generalize hX : st * rX = X at *
 generalize hY : st * rY = Y at *
 refine WR ?_
 refine al_ef rfl (ef_callm false (fun _ => range_a 1 6 _ _ _ hs (by omega) (by omega) (by omega) (by omega) (by omega) (by omega)) rfl .fn rfl (by decide) (by kernel_rfl) rfl rfl (fun _g => .cons (.p rfl) (.cons (.c rfl) (.cons (.c rfl) .nil))) (fun _g => .cons (.c rfl) (.cons (.c rfl) .nil)) (by simp)) ?_
 rintro F1 H1 ⟨_, _, _, _, ⟨rr, ar, rfl, hq, hr3, hr4, hr1, hr2, _⟩, hF, hH⟩
 injection hq with hq1 hq2; subst hq1; subst hq2
 (refine NST hF hH ?_; clear hF hH; rintro rfl rfl)
 have h64r : in64 rr := by simp only [in64]; omega
 refine WE ?_
 obtain ⟨nr, rfl⟩ : ∃ nr : Nat, rr = nr := ⟨rr.toNat, by omega⟩
 have hnr : 1 ≤ nr ∧ nr ≤ 6 := by omega
 have haa : a ≤ ar ∧ ar ≤ a + 4 := by omega
 generalize har : ar = a1 at *
 refine aw_loopw (fun m F H => ∃ (i cp : Nat) (R : List (List UInt8)) (a' : Int), m + i = nr ∧ R.length = i ∧ (∀ r ∈ R, r.length = wd ∧ okB2 r = true) ∧ a1 ≤ a' ∧ a' ≤ a1 + 10 * i ∧ F = [(0, .p 0 0 0), (1, .c (I st)), (4, .p 1 0 0), (5, .c (I wd)), (6, .p 2 0 0), (21, .c (I nr)), (22, .c (I i))] ∧ H = [strm v zs a', .box [.c (I 0), .c (I 0), .c (I 0), .c (.r (.slice none 0 0) [])], .box [.c (I st), .c (I X), .c (I Y), .o 3 0 R.length cp], .arr 9 1 cp (tR R)]) ?_ ?_
 ·refine wk_of [some 0, some 1, some 2, none] (fun _ => [(0, .p 0 0 0), (1, .c (I st)), (4, .p 1 0 0), (5, .c (I wd)), (6, .p 2 0 0), (21, .c (I nr)), (22, .c (I (0 : Nat)))]) (fun _ => [strm v zs a1, .box [.c (I 0), .c (I 0), .c (I 0), .c (.r (.slice none 0 0) [])], .box [.c (I st), .c (I X), .c (I Y), .o 3 0 0 0], .arr 9 1 0 (tR [])]) (by decide) (ZNL hE) ZCF ZCH (fun _ => ?_)
  exact ⟨nr, 0, 0, [], a1, by omega, rfl, fun r h => (by cases h), by omega, by omega, rfl, rfl⟩
 rintro m F H ⟨i, cp, R, a', hi, hRi, hRr, ha1, ha2, rfl, rfl⟩
 refine WA ?_
 refine aw_if rfl (fun hlt => ?_) (fun hge => ?_)
 ·refine WA ?_
  refine WA ?_
  refine aw_loopw (fun m2 F H => ∃ (k : Nat) (r : List UInt8) (a2 : Int), m2 + k = wd ∧ r.length = k ∧ okB2 r = true ∧ a2 = a' + k ∧ F = [(0, .p 0 0 0), (1, .c (I st)), (4, .p 1 0 0), (5, .c (I wd)), (6, .p 2 0 0), (7, .c (T r)), (21, .c (I nr)), (22, .c (I i)), (24, .c (I wd)), (25, .c (I k))] ∧ H = [strm v zs a2, .box [.c (I 0), .c (I 0), .c (I 0), .c (.r (.slice none 0 0) [])], .box [.c (I st), .c (I X), .c (I Y), .o 3 0 R.length cp], .arr 9 1 cp (tR R)]) ?_ ?_
  ·refine wk_of [some 0, some 1, some 2, some 3] (fun _ => [(0, .p 0 0 0), (1, .c (I st)), (4, .p 1 0 0), (5, .c (I wd)), (6, .p 2 0 0), (7, .c (T [])), (21, .c (I nr)), (22, .c (I i)), (24, .c (I wd)), (25, .c (I (0 : Nat)))]) (fun _ => [strm v zs a', .box [.c (I 0), .c (I 0), .c (I 0), .c (.r (.slice none 0 0) [])], .box [.c (I st), .c (I X), .c (I Y), .o 3 0 R.length cp], .arr 9 1 cp (tR R)]) (by decide) (ZNL hE) ZCF ZCH (fun _ => ?_)
   exact ⟨wd, 0, [], a', by omega, rfl, rfl, by simp, rfl, rfl⟩
  rintro m2 F H ⟨k, r, a2, hk, hrk, hrb, ha3, rfl, rfl⟩
  refine WA ?_
  refine aw_if rfl (fun hlt2 => ?_) (fun hge2 => ?_)
  ·refine WR ?_
   refine al_ef rfl (ef_callm true (fun _ => some_a [[35], [35], [35], [46]] _ _ _ _ hs (by omega) (by omega) (by simp) (by simp)) rfl .fn rfl (by decide) (by kernel_rfl) rfl rfl (fun _g => .cons (.p rfl) (.cons (.frz rfl rfl rfl rfl rfl) .nil)) (fun _g => .cons (.c rfl) (.cons (.c rfl) .nil)) (fun _ _ _ _ ⟨_, hu, hH, _⟩ => by rw [hu, hH]; exact ⟨.c (.inl trivial), strm_flat (.inr ⟨0, _, rfl, by simp⟩)⟩)) ?_
   rintro F1 H1 ⟨_, _, _, _, ⟨sr, rfl, hq, hsm⟩, hF, hH⟩
   injection hq with hq1 hq2; subst hq1; subst hq2
   (refine NST hF hH ?_; clear hF hH; rintro rfl rfl)
   have hsl : sr.length ≤ 1 := by simp only [List.mem_cons, List.not_mem_nil, or_false] at hsm; rcases hsm with rfl | rfl | rfl | rfl <;> decide
   refine WE ?_
   have hs1 : sr.length = 1 := by simp only [List.mem_cons, List.not_mem_nil, or_false] at hsm; rcases hsm with rfl | rfl | rfl | rfl <;> rfl
   have hs2 : okB2 sr = true := by simp only [List.mem_cons, List.not_mem_nil, or_false] at hsm; rcases hsm with rfl | rfl | rfl | rfl <;> rfl
   refine WA ?_
   refine wk_of [some 0, some 1, some 2, some 3] (fun _ => [(0, .p 0 0 0), (1, .c (I st)), (4, .p 1 0 0), (5, .c (I wd)), (6, .p 2 0 0), (7, .c (T (r ++ sr))), (21, .c (I nr)), (22, .c (I i)), (24, .c (I wd)), (25, .c (I (k + 1 : Nat)))]) (fun _ => [strm v zs (a2 + 1), .box [.c (I 0), .c (I 0), .c (I 0), .c (.r (.slice none 0 0) [])], .box [.c (I st), .c (I X), .c (I Y), .o 3 0 R.length cp], .arr 9 1 cp (tR R)]) (by decide) (ZNL hE) ZCF ZCH (fun _ => ?_)
   exact ⟨m2 - 1, by omega, k + 1, r ++ sr, a2 + 1, by omega, by rw [List.length_append]; omega, by unfold okB2 at *; rw [List.all_append, hrb, hs2]; rfl, by omega, rfl, rfl⟩
  obtain rfl : k = wd := by omega
  refine ZZ ?_
  refine WR ?_
  refine al_ef rfl (Zapp (KA (t := 26) rfl)) ?_
  rintro _ _ ⟨_, cc, hcc, rfl, rfl⟩
  refine WE ?_
  refine WA ?_
  refine wk_of [some 0, some 1, some 2, some 3] (fun _ => [(0, .p 0 0 0), (1, .c (I st)), (4, .p 1 0 0), (5, .c (I k)), (6, .p 2 0 0), (21, .c (I nr)), (22, .c (I (i + 1 : Nat)))]) (fun _ => [strm v zs a2, .box [.c (I 0), .c (I 0), .c (I 0), .c (.r (.slice none 0 0) [])], .box [.c (I st), .c (I X), .c (I Y), .o 3 0 (R ++ [r]).length cc], .arr 9 1 cc (tR (R ++ [r]))]) (by decide) (ZNL hE) ZCF ZCH (fun _ => ?_)
  exact ⟨m - 1, by omega, i + 1, cc, R ++ [r], a2, by omega, by rw [List.length_append]; simp; omega, fun q hq => by
   rcases List.mem_append.1 hq with hq | hq
   ·exact hRr q hq
   ·rw [List.mem_singleton.1 hq]; exact ⟨hrk, hrb⟩, by omega, by omega, rfl, rfl⟩
 obtain rfl : i = nr := by omega
 have hR6 : R.length ≤ 6 := by omega
 have hR7 : ∀ r ∈ R, r.length ≤ 7 ∧ okB2 r = true := fun r hr => ⟨by rw [(hRr r hr).1]; omega, (hRr r hr).2⟩
 have hRs : ∀ R' : List (List UInt8), R'.length ≤ 6 → (∀ r ∈ R', r.length ≤ 7) → ∀ s x y : Int, -10000 ≤ x ∧ x ≤ 10000 → -10000 ≤ y ∧ y ≤ 10000 → StrC ⟨s, x, y, R'⟩ := fun R' h1 h2 s x y hx hy => ⟨hx, hy, by show R'.length ≤ _; omega, fun r hr => by have := h2 r hr; omega⟩
 refine ZZ ?_
 refine WR ?_
 refine al_ef rfl (ef_callm false (fun _ => flip_a 12 _ _ _ hs (by omega) (by omega) (by simp only [in64]; omega)) rfl .fn rfl (by decide) (by kernel_rfl) rfl rfl (fun _g => .cons (.p rfl) (.cons (.c rfl) .nil)) (fun _g => .cons (.c rfl) (.cons (.c rfl) .nil)) (by simp)) ?_
 rintro F1 H1 ⟨_, _, _, _, ⟨bb, rfl, hq⟩, hF, hH⟩
 injection hq with hq1 hq2; subst hq1; subst hq2
 (refine NST hF hH ?_; clear hF hH; rintro rfl rfl)
 refine WE ?_
 refine aw_cond rfl (fun _ => ?_) (fun _ => ?_)
 ·refine WR ?_
  refine al_ef rfl (ef_callm false (fun _ => next_a 4 _ _ _ hs (by omega) (by omega) (by simp only [in64]; omega)) rfl .fn rfl (by decide) (by kernel_rfl) rfl rfl (fun _g => .cons (.p rfl) (.cons (.c rfl) .nil)) (fun _g => .cons (.c rfl) (.cons (.c rfl) .nil)) (by simp)) ?_
  rintro F1 H1 ⟨_, _, _, _, ⟨rr, rfl, hq, hr1, hr2⟩, hF, hH⟩
  injection hq with hq1 hq2; subst hq1; subst hq2
  (refine NST hF hH ?_; clear hF hH; rintro rfl rfl)
  refine WE ?_
  refine WA ?_
  refine aw_if rfl (fun _ => ?_) (fun _ => ?_)
  ·refine WA ?_
   refine WA ?_
   exact aret_of (us := [.a [.c (I st), .c (I (X + 1)), .c (I Y), .o 3 0 (R).length cp]]) [some 0] (fun g => .a [.c (I st), .c (I (X + 1)), .c (I Y), .c (.r (g (.o 3 0 (R).length cp)) (tR (R)))]) (fun _ => [strm v zs _]) (.cella (n := 4) rfl (by kernel_rfl) (Cells.box rfl) (by first | (simp; done) | exact Nat.le_refl 4) (by (try simp only [nm, putL, Nat.reduceAdd, cellsOf, cvOf]) <;> rfl) .nil) (by decide) (ZNK rfl) (fun g' => .aL (.cons (.c rfl) (.cons (.c rfl) (.cons (.c rfl) (.cons (.frz rfl rfl (by rw [List.drop_zero, List.take_of_length_le (by simp)]) (by simp) rfl) .nil))))) ZCH (fun g' => ⟨_, ⟨st, X + 1, Y, R⟩, _, rfl, rfl, by omega, by omega, hRs R hR6 (fun r hr => (hR7 r hr).1) _ _ _ (by omega) (by omega), fun _ => rfl⟩)
  ·refine ZZ ?_
   refine WA ?_
   refine aw_if rfl (fun _ => ?_) (fun _ => ?_)
   ·refine ZZ ?_
    refine aw_regionM [[(0, none), (1, none), (2, none), (3, none), (4, none), (5, none), (7, none), (6, some [0, 1, 7]), (8, some [0, 1, 2, 3, 4, 5, 7]), (9, some [0, 1]), (10, none), (11, some [])], [(0, none), (1, none), (2, none), (3, none), (4, none), (5, none), (7, none), (8, some [0, 1, 2, 3, 4, 5, 7]), (6, some [0, 1, 7]), (9, some [0, 1]), (10, none), (11, some [])]] hMixed (by kernel_rfl) ?_
    focus
     refine WM ?_
     refine am_two (by rfl) (by rfl) (by rfl) ?_ ?_
     rotate_left
     refine WM ?_
     refine am_ef (i := 6) (by rfl) (by rfl) rfl rfl (ef_callm false (fun _ => next_a _ _ _ _ hs (by omega) (by omega) (by simp only [in64]; omega)) rfl .fn rfl (by decide) (by kernel_rfl) rfl rfl (fun _g => .cons (.p rfl) (.cons (.c rfl) .nil)) (fun _g => .cons (.c rfl) (.cons (.c rfl) .nil)) (by simp)) ?_
     rintro F1 H1 ⟨_, _, _, _, ⟨rn, rfl, hq, hr1, hr2⟩, hF, hH⟩
     injection hq with hq1 hq2; subst hq1; subst hq2
     (refine NST hF hH ?_; clear hF hH; rintro rfl rfl)
     obtain ⟨ix, rfl⟩ : ∃ ix : Nat, rn = ix := ⟨rn.toNat, by omega⟩
     have hix : ix < R.length := by have := hr2 (by omega); omega
     obtain ⟨r0, hr0⟩ : ∃ z, R[ix]? = some z := ⟨_, List.getElem?_eq_getElem hix⟩
     have hrow : (tR R)[ix]? = some [T r0] := by rw [List.getElem?_map, hr0]; rfl
     refine ⟨AGX, ?_⟩
     refine am_ef (i := 9) (by rfl) (by rfl) rfl rfl (ef_callm true (fun _ => some_a [[], [120], [46]] _ _ _ _ hs (by omega) (by omega) (by simp) (by simp)) rfl .fn rfl (by decide) (by kernel_rfl) rfl rfl (fun _g => .cons (.p rfl) (.cons (.frz rfl rfl rfl rfl rfl) .nil)) (fun _g => .cons (.c rfl) (.cons (.c rfl) .nil)) (fun _ _ _ _ ⟨_, hu, hH, _⟩ => by rw [hu, hH]; exact ⟨.c (.inl trivial), strm_flat (.inr ⟨0, _, rfl, by simp⟩)⟩)) ?_
     rintro F1 H1 ⟨_, _, _, _, ⟨sr, rfl, hq, hsm⟩, hF, hH⟩
     injection hq with hq1 hq2; subst hq1; subst hq2
     (refine NST hF hH ?_; clear hF hH; rintro rfl rfl)
     have hsl : sr.length ≤ 1 := by simp only [List.mem_cons, List.not_mem_nil, or_false] at hsm; rcases hsm with rfl | rfl | rfl <;> decide
     refine ⟨AGX, ?_⟩
     refine WN ?_
     rotate_right
     refine am_ef (i := 6) (by rfl) (by rfl) rfl rfl (ef_callm false (fun _ => next_a _ _ _ _ hs (by omega) (by omega) (by simp only [in64]; omega)) rfl .fn rfl (by decide) (by kernel_rfl) rfl rfl (fun _g => .cons (.p rfl) (.cons (.c rfl) .nil)) (fun _g => .cons (.c rfl) (.cons (.c rfl) .nil)) (by simp)) ?_
     rintro F1 H1 ⟨_, _, _, _, ⟨rn, rfl, hq, hr1, hr2⟩, hF, hH⟩
     injection hq with hq1 hq2; subst hq1; subst hq2
     (refine NST hF hH ?_; clear hF hH; rintro rfl rfl)
     obtain ⟨ix, rfl⟩ : ∃ ix : Nat, rn = ix := ⟨rn.toNat, by omega⟩
     have hix : ix < R.length := by have := hr2 (by omega); omega
     obtain ⟨r0, hr0⟩ : ∃ z, R[ix]? = some z := ⟨_, List.getElem?_eq_getElem hix⟩
     have hrow : (tR R)[ix]? = some [T r0] := by rw [List.getElem?_map, hr0]; rfl
     refine ⟨AGX, ?_⟩
     refine WM ?_
     refine am_ef (i := 9) (by rfl) (by rfl) rfl rfl (ef_callm true (fun _ => some_a [[], [120], [46]] _ _ _ _ hs (by omega) (by omega) (by simp) (by simp)) rfl .fn rfl (by decide) (by kernel_rfl) rfl rfl (fun _g => .cons (.p rfl) (.cons (.frz rfl rfl rfl rfl rfl) .nil)) (fun _g => .cons (.c rfl) (.cons (.c rfl) .nil)) (fun _ _ _ _ ⟨_, hu, hH, _⟩ => by rw [hu, hH]; exact ⟨.c (.inl trivial), strm_flat (.inr ⟨0, _, rfl, by simp⟩)⟩)) ?_
     rintro F1 H1 ⟨_, _, _, _, ⟨sr, rfl, hq, hsm⟩, hF, hH⟩
     injection hq with hq1 hq2; subst hq1; subst hq2
     (refine NST hF hH ?_; clear hF hH; rintro rfl rfl)
     have hsl : sr.length ≤ 1 := by simp only [List.mem_cons, List.not_mem_nil, or_false] at hsm; rcases hsm with rfl | rfl | rfl <;> decide
     refine ⟨AGX, ?_⟩
     refine WN ?_
    all_goals (
     have hsc : StrC ⟨st, X, Y, R.set ix sr⟩ := hRs (R.set ix sr) (by rw [List.length_set]; omega) (fun r hr => (List.mem_or_eq_of_mem_set hr).elim (fun h => (hR7 r h).1) (fun h => by rw [h]; omega)) _ _ _ (by omega) (by omega)
     have hse : (tR R).set (0 + ix) [T sr] = tR (R.set ix sr) := by show List.set (List.map (fun r => [T r]) R) (0 + ix) [T sr] = List.map (fun r => [T r]) (R.set ix sr); rw [Nat.zero_add, List.map_set]
     refine WA ?_
     exact aret_of (us := [.a [.c (I st), .c (I X), .c (I Y), .o 3 0 R.length cp]]) [some 0] (fun g => .a [.c (I st), .c (I X), .c (I Y), .c (.r (g (.o 3 0 R.length cp)) (tR (R.set ix sr)))]) (fun _ => [strm v zs _]) (.cella (n := 4) rfl (by kernel_rfl) (Cells.box rfl) (by first | (simp; done) | exact Nat.le_refl 4) (by (try simp only [nm, putL, Nat.reduceAdd, cellsOf, cvOf]) <;> rfl) .nil) (by decide) (ZNK rfl) (fun g' => .aL (.cons (.c rfl) (.cons (.c rfl) (.cons (.c rfl) (.cons (.frz (b := 3) rfl rfl (by rw [List.drop_zero, List.take_of_length_le (by simp)]; exact hse) (by simp) rfl) .nil))))) ZCH (fun g' => ⟨_, ⟨st, X, Y, R.set ix sr⟩, _, rfl, rfl, by omega, by omega, hsc, fun _ => rfl⟩))
   ·refine ZZ ?_
    refine WA ?_
    refine aw_if rfl (fun _ => ?_) (fun _ => ?_)
    ·refine WR ?_
     refine al_ef rfl (ef_callm true (fun _ => pick_a [1, 3, 0, -2, 10002] _ _ _ _ hs (by omega) (by omega) (by simp) (by simp)) rfl .fn rfl (by decide) (by kernel_rfl) rfl rfl (fun _g => .cons (.p rfl) (.cons (.frz rfl rfl rfl rfl rfl) .nil)) (fun _g => .cons (.c rfl) (.cons (.c rfl) .nil)) (fun _ _ _ _ ⟨_, hu, hH, _⟩ => by rw [hu, hH]; exact ⟨.c (.inl trivial), strm_flat (.inr ⟨0, _, rfl, by simp⟩)⟩)) ?_
     rintro F1 H1 ⟨_, _, _, _, ⟨rr, rfl, hq, hrm⟩, hF, hH⟩
     injection hq with hq1 hq2; subst hq1; subst hq2
     (refine NST hF hH ?_; clear hF hH; rintro rfl rfl)
     have h64r : in64 rr := by simp only [List.mem_cons, List.not_mem_nil, or_false] at hrm; simp only [in64] at *; omega
     have hrn : ¬ (2 ≤ rr ∧ rr ≤ 10000 ∧ rr.tmod 2 = 0) := by
      simp only [List.mem_cons, List.not_mem_nil, or_false] at hrm
      rcases hrm with rfl | rfl | rfl | rfl | rfl <;> decide
     clear hrm
     refine WE ?_
     refine WA ?_
     exact aret_of (us := [.a [.c (I _), .c (I X), .c (I Y), .o 3 0 (R).length cp]]) [some 0] (fun g => .a [.c (I _), .c (I X), .c (I Y), .c (.r (g (.o 3 0 (R).length cp)) (tR (R)))]) (fun _ => [strm v zs _]) (.cella (n := 4) rfl (by kernel_rfl) (Cells.box rfl) (by first | (simp; done) | exact Nat.le_refl 4) (by (try simp only [nm, putL, Nat.reduceAdd, cellsOf, cvOf]) <;> rfl) .nil) (by decide) (ZNK rfl) (fun g' => .aL (.cons (.c rfl) (.cons (.c rfl) (.cons (.c rfl) (.cons (.frz rfl rfl (by rw [List.drop_zero, List.take_of_length_le (by simp)]) (by simp) rfl) .nil))))) ZCH (fun g' => ⟨_, ⟨_, X, Y, R⟩, _, rfl, rfl, by omega, by omega, hRs R hR6 (fun r hr => (hR7 r hr).1) _ _ _ (by omega) (by omega), fun h => absurd h.st hrn⟩)
    ·refine ZZ ?_
     refine WA ?_
     refine WA ?_
     exact aret_a [some 0] _ rfl (KK (t := 28) rfl) rfl (Cells.box rfl) (by first | (simp; done) | exact Nat.le_refl 4) (by (try simp only [nm, putL, Nat.reduceAdd, cellsOf, cvOf]) <;> rfl) (by decide) (ZNK rfl) (fun _ => C0 rfl) ZCH ⟨.slice none 0 0, ⟨st, X, Y, []⟩, _, rfl, rfl, by omega, by omega, hRs [] (by simp) (fun r hr => by cases hr) _ _ _ (by omega) (by omega), fun _ => rfl⟩
 ·refine ZZ ?_
  refine aw_wk (wk_of (K := fun F H => ∃ vo, F = [(4, .p 1 0 0), (6, .p 2 0 0)] ∧ H = [strm v zs (a' + 1), .box [.c (I 0), .c (I 0), .c (I 0), .c (.r (.slice none 0 0) [])], .box [.c (I st), .c (I X), .c (I Y), .c (.r vo (tR R))]]) [some 0, some 1, some 2] (fun _ => [(4, .p 1 0 0), (6, .p 2 0 0)]) (fun g => [strm v zs (a' + 1), .box [.c (I 0), .c (I 0), .c (I 0), .c (.r (.slice none 0 0) [])], .box [.c (I st), .c (I X), .c (I Y), .c (.r (g (.o 3 0 R.length cp)) (tR R))]]) (by decide) (ZNL hE) ZCF (fun g => .box rfl (C0 rfl) (.box rfl (C0 rfl) (.box rfl (.cons (.c rfl) (.cons (.c rfl) (.cons (.c rfl) (.cons (.frz rfl rfl (by rw [List.drop_zero, List.take_of_length_le (by simp)]) (by simp) rfl) .nil)))) .nil))) (fun _ => ⟨_, rfl, rfl⟩)) ?_
  rintro F H ⟨vo, rfl, rfl⟩
  have hRk : ∀ r ∈ R, r.length ≤ 1000000 ∧ okB2 r = true := fun r hr => ⟨by have := (hR7 r hr).1; omega, (hR7 r hr).2⟩
  have hcs : StrC (normC st (covL ⟨st, X, Y, R⟩)).1 := normC_str (by omega) fun p hp => by
   obtain ⟨i, k, r, q1, q2, rfl⟩ := hitC_mem.1 hp
   have k1 : i < R.length := (List.getElem?_eq_some_iff.1 q1).1
   have k2 := (List.getElem?_eq_some_iff.1 q2).1
   have k3 := (hR7 r (List.mem_of_getElem? q1)).1
   simp only
   rw [hX3, hY3]
   omega
  refine WR ?_
  refine al_ef rfl (ef_call0 false (fun _ => trimmed_v vo ⟨st, X, Y, R⟩ ⟨hst.1, by show st ≤ _; omega⟩ (by show -2000000 ≤ X ∧ X ≤ _; omega) (by show -2000000 ≤ Y ∧ Y ≤ _; omega) (by show R.length ≤ _; omega) hRk) rfl .fn rfl (by decide) (by kernel_rfl) rfl (fun _ => C0 rfl) (by simp)) ?_
  rintro _ _ ⟨_, _, _, ⟨v', rfl, rfl⟩, hF, hH⟩
  (refine NST hF hH ?_; clear hF hH; rintro rfl rfl)
  refine WE ?_
  exact aret_a [some 0] _ rfl (KK (t := 28) rfl) rfl (Cells.box rfl) (by first | (simp; done) | exact Nat.le_refl 4) (by (try simp only [nm, putL, Nat.reduceAdd, cellsOf, cvOf]) <;> rfl) (by decide) (ZNK rfl) (fun _ => C0 rfl) ZCH ⟨v', _, _, rfl, rfl, by omega, by omega, hcs, normC_rst⟩
theorem acells_v (st : Int) (hst : 1 ≤ st ∧ st ≤ 100) (v : Value) (zs : List Int) (a : Int) (hs : StrOk zs) (h0 : 0 ≤ a) (h1 : a ≤ 800000000) : ACalls Tryz.prog 5 [.p 0 0 0, .c (I st)] [strm v zs a] fun u H => ∃ (v' : Value) (c : Cel) (a' : Int), u = celA v' c ∧ H = [strm v zs a'] ∧ a ≤ a' ∧ a' ≤ a + 200 ∧ StrC c :=
 (acells_w st hst v zs a hs h0 h1).mono fun _ _ ⟨v', c, a', e1, e2, e3, e4, e5, _⟩ => ⟨v', c, a', e1, e2, e3, e4, e5⟩
end Go.Proofs.YtfilfijammemfaaGreatDoor

/- Plans of layers, by value: the program's and the reference's. -/
-- NEWM
namespace Go.Proofs.YtfilfijammemfaaGreatDoor
open Go Go.RowKit
set_option maxRecDepth 100000
end Go.Proofs.YtfilfijammemfaaGreatDoor
