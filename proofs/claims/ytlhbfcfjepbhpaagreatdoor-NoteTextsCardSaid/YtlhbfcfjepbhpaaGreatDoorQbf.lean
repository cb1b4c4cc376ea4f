/- The document reads a line of a note: noteIn, by value. -/
import Derived.Test.YtlhbfcfjepbhpaaGreatDoorQbe
set_option linter.unusedSimpArgs false
set_option linter.unusedVariables false
-- NEWM
namespace Go.Proofs.YtlhbfcfjepbhpaaGreatDoor
open Go Go.RowKit
set_option maxRecDepth 1000000
def tabK (k : Int) : Int := if k = 1 ∨ k = 5 then 7 else if k = 3 ∨ k = 4 then 5 else 6
theorem za3 {st : List UInt8} {no a k : Int} {r : List (List UInt8)} {y : Nt} (h : argF st no a k r = some y) : (r.length : Int) + 4 = tabK k := by
 unfold argF at h
 repeat' split at h
 all_goals first
  | (cases h; done)
  | (subst_vars; rfl)
theorem rw_short {l : List (List UInt8)} (h : l.length < 5) : rwF l = none := by
 rcases l with _ | ⟨a, _ | ⟨b, _ | ⟨c, _ | ⟨d, _ | ⟨e, r⟩⟩⟩⟩⟩
 ·rfl
 ·rfl
 ·rfl
 ·rfl
 ·show (match numF b, numF c with | some no, some a2 => argF a no a2 (kwI d) [] | _, _ => none) = none
  have h0 : ∀ no a2, argF a no a2 (kwI d) [] = none := fun no a2 => by
   cases hx : argF a no a2 (kwI d) [] with
   | none => rfl
   | some y =>
    have := za3 hx
    unfold tabK at this
    simp at this
    split at this
    ·omega
    ·split at this <;> omega
  split
  ·exact h0 _ _
  ·rfl
 ·simp at h
  omega
theorem rw_two {a b c d : List UInt8} {r : List (List UInt8)} : (([b, c].all fun w => (numF w).isSome) = true → rwF (a :: b :: c :: d :: r) = argF a (rN b) (rN c) (kwI d) r) ∧ (([b, c].all fun w => (numF w).isSome) = false → rwF (a :: b :: c :: d :: r) = none) := by
 show (_ → (match numF b, numF c with | some no, some a2 => argF a no a2 (kwI d) r | _, _ => none) = argF a (rN b) (rN c) (kwI d) r) ∧ (_ → (match numF b, numF c with | some no, some a2 => argF a no a2 (kwI d) r | _, _ => none) = none)
 cases hb : numF b with
 | none => simp [hb]
 | some n =>
  cases hc : numF c with
  | none => simp [hb, hc]
  | some m => rw [zq3 hb, zq3 hc]; simp [hb, hc]
theorem rwords_at {s : List UInt8} {q : Bool} (hl : s.length ≤ 900000) (h : (wrdsF s).isSome = q) : ACalls Tryz.prog 120 [.c (T s)] [] fun u H => (∃ V, u = .t [.c (.r V (wR (spl 32 s))), .c (B q)]) ∧ H = [] := by
 have := rwords_v s hl
 rw [h] at this
 exact this
theorem kindex_w (V : Value) (w : List UInt8) : ACalls Tryz.prog 119 [.c (.r V (wR kwL)), .c (T w)] [] fun u H => u = .c (I (kwI w)) ∧ H = [] := by
 rw [← kwI_idx]
 exact sindex_v V kwL w (by decide)
set_option maxHeartbeats 4000000 in
theorem notein_v (s : List UInt8) (hl : s.length ≤ 900000) : ACallsW TabX false Tryz.prog 68 [.c (T s)] [] fun u H => ∃ x : Nt, u = .t [noA x, .c (B (rnF s).isSome)] ∧ (∀ y, rnF s = some y → x = y) ∧ H = [] := by
 obtain ⟨qw, hws⟩ : ∃ q, (wrdsF s).isSome = q := ⟨_, rfl⟩
 have hlw : ∀ w ∈ spl 32 s, w.length ≤ 1000000 := fun w hw => by
  have := (zs3 (c := 32) _ s rfl w hw).2.1
  omega
 have hws2 : (qw = true → wrdsF s = some (spl 32 s)) ∧ (qw = false → wrdsF s = none) := by
  rw [← hws]
  unfold wrdsF
  split <;> simp
 refine zD1 zk2 false (N := 114) Tryz.func68 rfl rfl (by simp) fun E hE hP hX => ?_
 refine WA ?_
 refine WR ?_
 refine zf rfl (zc false (fun _ => rwords_at hl hws) rfl .fn rfl (by decide) (by kernel_rfl) rfl (fun _ => C0 rfl) (by simp)) ?_
 rintro _ _ ⟨_, _, _, ⟨⟨vl, rfl⟩, rfl⟩, hF, hH⟩
 (refine NST hF hH ?_; clear hF hH; rintro rfl rfl)
 refine WE ?_
 generalize hsp : spl 32 s = l at hws2 hlw ⊢
 cases qw with
 | false =>
  have hr : rnF s = none := by unfold rnF; rw [hws2.2 rfl]; rfl
  rw [hr]
  refine ZR ?_
  refine WE ?_
  refine zb rfl ?_
  refine ZZ ?_
  refine WA ?_
  exact zu (us := [.a [.c (T []), .c (I 0), .c (I 0), .c (I 0), .c (T []), .c (T []), .c (T []), .c (I 0), .c (T []), .c (I 0)], .c (B false)]) [] (fun _ => .t [.a [.c (T []), .c (I 0), .c (I 0), .c (I 0), .c (T []), .c (T []), .c (T []), .c (I 0), .c (T []), .c (I 0)], .c (B false)]) (fun _ => []) (.cella (n := 10) rfl (by kernel_rfl) (Cells.box rfl) (by simp) (by (try simp only [nm, putL, Nat.reduceAdd, cellsOf, cvOf]) <;> rfl) (.tmp rfl .nil)) (by decide) (ZNK rfl) (fun _ => .tL (.cons (.aL (C0 rfl)) (.cons (.c rfl) .nil))) ZCH (fun _ => ⟨⟨[], 0, 0, 0, [], [], [], 0, [], 0⟩, rfl, fun y hy => (by cases hy), rfl⟩)
 | true =>
  have he1 : rnF s = rwF l := by unfold rnF; rw [hws2.1 rfl]; rfl
  rw [he1]
  clear he1 hws2 hws hsp
  have eL : (wR l).length = l.length := by simp
  by_cases h5 : l.length < 5
  ·have h5i : ((wR l).length : Int) < 5 := by omega
   rw [rw_short h5]
   refine WA ?_
   refine zb rfl ?_
   refine ZZ ?_
   refine WA ?_
   exact zu (us := [.a [.c (T []), .c (I 0), .c (I 0), .c (I 0), .c (T []), .c (T []), .c (T []), .c (I 0), .c (T []), .c (I 0)], .c (B false)]) [] (fun _ => .t [.a [.c (T []), .c (I 0), .c (I 0), .c (I 0), .c (T []), .c (T []), .c (T []), .c (I 0), .c (T []), .c (I 0)], .c (B false)]) (fun _ => []) (.cella (n := 10) rfl (by kernel_rfl) (Cells.box rfl) (by simp) (by (try simp only [nm, putL, Nat.reduceAdd, cellsOf, cvOf]) <;> rfl) (.tmp rfl .nil)) (by decide) (ZNK rfl) (fun _ => .tL (.cons (.aL (C0 rfl)) (.cons (.c rfl) .nil))) ZCH (fun _ => ⟨⟨[], 0, 0, 0, [], [], [], 0, [], 0⟩, rfl, fun y hy => (by cases hy), rfl⟩)
  have h5i : ¬ ((wR l).length : Int) < 5 := by omega
  refine WA ?_
  refine za rfl ?_
  refine ZZ ?_
  obtain ⟨a, b, c, d, r, rfl⟩ : ∃ a b c d r, l = a :: b :: c :: d :: r := by
   rcases l with _ | ⟨a, _ | ⟨b, _ | ⟨c, _ | ⟨d, r⟩⟩⟩⟩
   ·simp at h5
   ·simp at h5
   ·simp at h5
   ·simp at h5
   ·exact ⟨a, b, c, d, r, rfl⟩
  obtain ⟨rt, rf⟩ := @rw_two a b c d r
  have hbc : ∀ w ∈ [b, c], w.length ≤ 1000000 := fun w hw => hlw w (by simp at hw ⊢; rcases hw with rfl | rfl <;> simp)
  obtain ⟨qn, hqn⟩ : ∃ q, ([b, c].all fun w => (numF w).isSome) = q := ⟨_, rfl⟩
  rw [hqn] at rt rf
  have g0 : (wR (a :: b :: c :: d :: r))[0]? = some [T a] := rfl
  have g3 : (wR (a :: b :: c :: d :: r))[3]? = some [T d] := rfl
  have n0 : (rNs [b, c])[0]? = some [I (rN b)] := rfl
  have n1 : (rNs [b, c])[1]? = some [I (rN c)] := rfl
  have hbd := kwI_bd d
  refine ZR ?_
  refine WX1 ?_
  refine ZA (rd_slicerX (e := 9) (rows' := wR [b, c]) (l := 1) (h := 3) rfl rfl (by kernel_rfl) rfl (fun row hr => by obtain ⟨s, -, rfl⟩ := List.mem_map.1 hr; rfl) (.inr ⟨_, _, _, rfl, rfl, rfl⟩) (.inr ⟨_, _, _, rfl, rfl, rfl⟩) (by omega) (by simp)) ?_
  refine zf rfl (zQ TabX (hX _ _) false (fun _ => numbersin_v _ [b, c] hbc (by simp)) rfl .fn rfl (by decide) (by kernel_rfl) rfl (fun _ => C0 rfl) (by simp)) ?_
  rintro _ _ ⟨_, _, _, ⟨⟨vn, rfl⟩, rfl⟩, hF, hH⟩
  rw [hqn] at hF
  (refine NST hF hH ?_; clear hF hH; rintro rfl rfl)
  refine WE ?_
  refine zA1 (fun F H => F = [(2, .p 0 0 0), (4, .c (.r vl (wR (a :: b :: c :: d :: r)))), (7, .c (B qn)), (8, .p 1 0 0)] ∧ H = [.box [.c (T []), .c (I 0), .c (I 0), .c (I 0), .c (T []), .c (T []), .c (T []), .c (I 0), .c (T []), .c (I 0)], .box [.c (T a), .c (I (rN b)), .c (I (rN c)), .c (I (kwI d)), .c (T []), .c (T []), .c (T []), .c (I 0), .c (T []), .c (I 0)]]) ?_ ?_ zq2
  ·refine ZZ ?_
   refine zW3 [[(0, none), (1, none), (2, none), (3, none), (4, none), (5, none), (6, none), (7, none), (8, none), (10, none), (11, none), (12, none), (9, some [0, 1, 2, 3, 4, 5, 6, 7, 8, 10, 11, 12]), (13, some [0, 1, 2, 3, 4, 5, 6, 7, 8]), (14, none), (15, some [0, 1, 2, 3, 4, 5, 6, 7, 8, 10, 11, 12, 14]), (16, some [])], [(0, none), (1, none), (2, none), (3, none), (4, none), (5, none), (6, none), (7, none), (8, none), (10, none), (11, none), (12, none), (9, some [0, 1, 2, 3, 4, 5, 6, 7, 8, 10, 11, 12]), (15, some [0, 1, 2, 3, 4, 5, 6, 7, 8, 10, 11, 12]), (13, some [0, 1, 2, 3, 4, 5, 6, 7, 8]), (14, none), (16, some [])], [(0, none), (1, none), (2, none), (3, none), (4, none), (5, none), (6, none), (7, none), (8, none), (10, none), (11, none), (12, none), (15, some [0, 1, 2, 3, 4, 5, 6, 7, 8, 10, 11, 12]), (9, some [0, 1, 2, 3, 4, 5, 6, 7, 8, 10, 11, 12]), (13, some [0, 1, 2, 3, 4, 5, 6, 7, 8]), (14, none), (16, some [])]] zS (by kernel_rfl) ?_
   focus
    refine WM ?_
    refine zA2 (by rfl) (by rfl) (by rfl) ?_ ?_
    rotate_left
    refine WM ?_
    refine zv1 (i := 9) (by rfl) (by rfl) rfl rfl (zc false (fun _ => zr3) rfl .fn rfl (by decide) (by kernel_rfl) rfl (fun _ => C0 rfl) (by simp)) ?_
    rintro _ _ ⟨_, _, _, ⟨⟨vk, rfl⟩, rfl⟩, hF, hH⟩
    (refine NST hF hH ?_; clear hF hH; rintro rfl rfl)
    refine ⟨AGX, ?_⟩
    refine zv1 (i := 13) (by rfl) (by rfl) rfl rfl (zc false (fun _ => kindex_w vk d) rfl .fn rfl (by decide) (by kernel_rfl) rfl (fun _ => C0 rfl) (by simp)) ?_
    rintro _ _ ⟨_, _, _, ⟨rfl, rfl⟩, hF, hH⟩
    (refine NST hF hH ?_; clear hF hH; rintro rfl rfl)
    refine ⟨AGX, ?_⟩
    refine WN ?_
    rotate_right
    refine zv1 (i := 9) (by rfl) (by rfl) rfl rfl (zc false (fun _ => zr3) rfl .fn rfl (by decide) (by kernel_rfl) rfl (fun _ => C0 rfl) (by simp)) ?_
    rintro _ _ ⟨_, _, _, ⟨⟨vk, rfl⟩, rfl⟩, hF, hH⟩
    (refine NST hF hH ?_; clear hF hH; rintro rfl rfl)
    refine ⟨AGX, ?_⟩
    refine zA2 (by rfl) (by rfl) (by rfl) ?_ ?_
    rotate_left
    refine WM ?_
    refine zv1 (i := 13) (by rfl) (by rfl) rfl rfl (zc false (fun _ => kindex_w vk d) rfl .fn rfl (by decide) (by kernel_rfl) rfl (fun _ => C0 rfl) (by simp)) ?_
    rintro _ _ ⟨_, _, _, ⟨rfl, rfl⟩, hF, hH⟩
    (refine NST hF hH ?_; clear hF hH; rintro rfl rfl)
    refine ⟨AGX, ?_⟩
    refine WN ?_
    rotate_right
    refine zv1 (i := 13) (by rfl) (by rfl) rfl rfl (zc false (fun _ => kindex_w vk d) rfl .fn rfl (by decide) (by kernel_rfl) rfl (fun _ => C0 rfl) (by simp)) ?_
    rintro _ _ ⟨_, _, _, ⟨rfl, rfl⟩, hF, hH⟩
    (refine NST hF hH ?_; clear hF hH; rintro rfl rfl)
    refine ⟨AGX, ?_⟩
    refine WN ?_
   all_goals
    exact zp [some 0, some 1] (fun _ => [(2, .p 0 0 0), (4, .c (.r vl (wR (a :: b :: c :: d :: r)))), (7, .c (B qn)), (8, .p 1 0 0)]) (fun _ => [.box [.c (T []), .c (I 0), .c (I 0), .c (I 0), .c (T []), .c (T []), .c (T []), .c (I 0), .c (T []), .c (I 0)], .box [.c (T a), .c (I (rN b)), .c (I (rN c)), .c (I (kwI d)), .c (T []), .c (T []), .c (T []), .c (I 0), .c (T []), .c (I 0)]]) (by decide) (ZNL hE) ZCF ZCH (fun _ => ⟨rfl, rfl⟩)
  rintro F H ⟨rfl, rfl⟩
  cases qn with
  | false =>
   rw [rf rfl]
   refine ZR ?_
   refine WE ?_
   refine zb rfl ?_
   refine ZZ ?_
   refine WA ?_
   exact zu (us := [.a [.c (T a), .c (I (rN b)), .c (I (rN c)), .c (I (kwI d)), .c (T []), .c (T []), .c (T []), .c (I 0), .c (T []), .c (I 0)], .c (B false)]) [] (fun _ => .t [.a [.c (T a), .c (I (rN b)), .c (I (rN c)), .c (I (kwI d)), .c (T []), .c (T []), .c (T []), .c (I 0), .c (T []), .c (I 0)], .c (B false)]) (fun _ => []) (.cella (n := 10) rfl (by kernel_rfl) (Cells.box rfl) (by simp) (by (try simp only [nm, putL, Nat.reduceAdd, cellsOf, cvOf]) <;> rfl) (.tmp rfl .nil)) (by decide) (ZNK rfl) (fun _ => .tL (.cons (.aL (C0 rfl)) (.cons (.c rfl) .nil))) ZCH (fun _ => ⟨⟨a, rN b, rN c, kwI d, [], [], [], 0, [], 0⟩, rfl, fun y hy => (by cases hy), rfl⟩)
  | true =>
   rw [rt rfl]
   clear rt rf
   generalize hkk : kwI d = k at hbd ⊢
   by_cases hk1 : k < 1
   ·have hnn : argF a (rN b) (rN c) k r = none := by unfold argF; repeat rw [if_neg (by omega)]
    rw [hnn]
    refine ZR ?_
    refine WE ?_
    refine zb rfl ?_
    refine ZZ ?_
    refine WA ?_
    exact zu (us := [.a [.c (T a), .c (I (rN b)), .c (I (rN c)), .c (I k), .c (T []), .c (T []), .c (T []), .c (I 0), .c (T []), .c (I 0)], .c (B false)]) [] (fun _ => .t [.a [.c (T a), .c (I (rN b)), .c (I (rN c)), .c (I k), .c (T []), .c (T []), .c (T []), .c (I 0), .c (T []), .c (I 0)], .c (B false)]) (fun _ => []) (.cella (n := 10) rfl (by kernel_rfl) (Cells.box rfl) (by simp) (by (try simp only [nm, putL, Nat.reduceAdd, cellsOf, cvOf]) <;> rfl) (.tmp rfl .nil)) (by decide) (ZNK rfl) (fun _ => .tL (.cons (.aL (C0 rfl)) (.cons (.c rfl) .nil))) ZCH (fun _ => ⟨⟨a, rN b, rN c, k, [], [], [], 0, [], 0⟩, rfl, fun y hy => (by cases hy), rfl⟩)
   clear g0 g3 n0 n1 hkk
   rcases (show k = 1 ∨ k = 2 ∨ k = 3 ∨ k = 4 ∨ k = 5 ∨ k = 6 ∨ k = 7 by omega) with rfl | rfl | rfl | rfl | rfl | rfl | rfl
   ·by_cases hlen : (r.length : Int) + 4 = 7
    ·obtain ⟨p, j, n, rfl⟩ : ∃ (p : List UInt8) (j : List UInt8) (n : List UInt8), r = [p, j, n] := by
      rcases r with _ | ⟨x1, _ | ⟨x2, _ | ⟨x3, _ | ⟨z, r⟩⟩⟩⟩
      ·simp at hlen
      ·simp at hlen
      ·simp at hlen
      ·exact ⟨x1, x2, x3, rfl⟩
      ·simp at hlen; omega
     have hL : ((wR (a :: b :: c :: d :: [p, j, n])).length : Int) = 7 := by simp
     have hnl : n.length ≤ 1000000 := hlw n (by simp)
     have gp : (wR (a :: b :: c :: d :: [p, j, n]))[4]? = some [T p] := rfl
     have gq : (wR (a :: b :: c :: d :: [p, j, n]))[5]? = some [T j] := rfl
     refine ZR ?_
     iterate 10 refine WX1 ?_
     first | refine ZS ?_ | (refine G1 rfl ?_; refine zf rfl Ybsr ?_; rintro _ _ ⟨vst, rfl, rfl⟩) | skip
     iterate 2 refine WX1 ?_
     first | refine ZP (ZJ (i := 1) (row := [I 7]) (KE (t := 22) rfl) rfl rfl rfl rfl rfl) ?_ | refine ZS ?_
     refine WE ?_
     refine za rfl ?_
     refine ZZ ?_
     refine WA ?_
     refine WA ?_
     refine zb rfl ?_
     refine ZZ ?_
     obtain ⟨qo, hqo⟩ : ∃ q, (numF n).isSome = q := ⟨_, rfl⟩
     refine ZR ?_
     iterate 4 refine WX1 ?_
     refine ZA (ZJ (i := 6) (row := [T n]) (KE (t := 61) rfl) rfl rfl rfl (by first | (simp; done) | (simp; exact Zwr (by omega))) rfl) ?_
     refine WO ?_
     refine zf rfl (zQ TabX (hX _ _) false (fun _ => zv2 n hnl) rfl .fn rfl (by decide) (by kernel_rfl) rfl (fun _ => C0 rfl) (by simp)) ?_
     rintro _ _ ⟨_, _, _, ⟨rfl, rfl⟩, hF, hH⟩
     rw [hqo] at hF
     (refine NST hF hH ?_; clear hF hH; rintro rfl rfl)
     refine WE ?_
     refine WA ?_
     cases qo with
     | false =>
      have hnv : numF n = none := by cases h : numF n with | none => rfl | some z => rw [h] at hqo; cases hqo
      refine zb rfl ?_
      refine ZZ ?_
      refine WA ?_
      rw [show argF a (rN b) (rN c) 1 [p, j, n] = none by simp [argF, hnv]]
      exact zu (us := [.a [.c (T a), .c (I (rN b)), .c (I (rN c)), .c (I 1), .c (T []), .c (T []), .c (T []), .c (I 0), .c (T []), .c (I 0)], .c (B false)]) [] (fun _ => .t [.a [.c (T a), .c (I (rN b)), .c (I (rN c)), .c (I 1), .c (T []), .c (T []), .c (T []), .c (I 0), .c (T []), .c (I 0)], .c (B false)]) (fun _ => []) (.cella (n := 10) rfl (by kernel_rfl) (Cells.box rfl) (by simp) (by (try simp only [nm, putL, Nat.reduceAdd, cellsOf, cvOf]) <;> rfl) (.tmp rfl .nil)) (by decide) (ZNK rfl) (fun _ => .tL (.cons (.aL (C0 rfl)) (.cons (.c rfl) .nil))) ZCH (fun _ => ⟨⟨a, rN b, rN c, 1, [], [], [], 0, [], 0⟩, rfl, fun y hy => (by cases hy), rfl⟩)
     | true =>
      obtain ⟨z, hz⟩ : ∃ z, numF n = some z := Option.isSome_iff_exists.1 hqo
      have hnv : numF n = some (rN n) := by rw [zq3 hz]; exact hz
      refine za rfl ?_
      refine ZZ ?_
      refine WA ?_
      refine za rfl ?_
      refine ZZ ?_
      refine WA ?_
      refine WA ?_
      refine WA ?_
      refine zb rfl ?_
      refine ZZ ?_
      refine WA ?_
      refine WA ?_
      rw [show argF a (rN b) (rN c) 1 [p, j, n] = some (⟨a, rN b, rN c, 1, p, j, [], rN n, [], 0⟩ : Nt) from by simp [argF, hnv]]
      exact zu (us := [.a [.c (T a), .c (I (rN b)), .c (I (rN c)), .c (I 1), .c (T p), .c (T j), .c (T []), .c (I (rN n)), .c (T []), .c (I 0)], .c (B true)]) [] (fun _ => .t [.a [.c (T a), .c (I (rN b)), .c (I (rN c)), .c (I 1), .c (T p), .c (T j), .c (T []), .c (I (rN n)), .c (T []), .c (I 0)], .c (B true)]) (fun _ => []) (.cella (n := 10) rfl (by kernel_rfl) (Cells.box rfl) (by simp) (by (try simp only [nm, putL, Nat.reduceAdd, cellsOf, cvOf]) <;> rfl) (.tmp rfl .nil)) (by decide) (ZNK rfl) (fun _ => .tL (.cons (.aL (C0 rfl)) (.cons (.c rfl) .nil))) ZCH (fun _ => ⟨_, rfl, fun y hy => Option.some.inj hy, rfl⟩)
    ·have hL : ¬ ((wR (a :: b :: c :: d :: r)).length : Int) = 7 := by simp; omega
     have hL2 : ¬ (([T a] :: [T b] :: [T c] :: [T d] :: List.map (fun w => [T w]) r).length : Int) = 7 := hL
     have hnn : argF a (rN b) (rN c) 1 r = none := by
      cases hx : argF a (rN b) (rN c) 1 r with
      | none => rfl
      | some y => exact absurd (za3 hx) hlen
     rw [hnn]
     refine ZR ?_
     iterate 10 refine WX1 ?_
     first | refine ZS ?_ | (refine G1 rfl ?_; refine zf rfl Ybsr ?_; rintro _ _ ⟨vst, rfl, rfl⟩) | skip
     iterate 2 refine WX1 ?_
     first | refine ZP (ZJ (i := 1) (row := [I 7]) (KE (t := 22) rfl) rfl rfl rfl rfl rfl) ?_ | refine ZS ?_
     refine WE ?_
     refine zb rfl ?_
     refine ZZ ?_
     refine WA ?_
     exact zu (us := [.a [.c (T a), .c (I (rN b)), .c (I (rN c)), .c (I 1), .c (T []), .c (T []), .c (T []), .c (I 0), .c (T []), .c (I 0)], .c (B false)]) [] (fun _ => .t [.a [.c (T a), .c (I (rN b)), .c (I (rN c)), .c (I 1), .c (T []), .c (T []), .c (T []), .c (I 0), .c (T []), .c (I 0)], .c (B false)]) (fun _ => []) (.cella (n := 10) rfl (by kernel_rfl) (Cells.box rfl) (by simp) (by (try simp only [nm, putL, Nat.reduceAdd, cellsOf, cvOf]) <;> rfl) (.tmp rfl .nil)) (by decide) (ZNK rfl) (fun _ => .tL (.cons (.aL (C0 rfl)) (.cons (.c rfl) .nil))) ZCH (fun _ => ⟨⟨a, rN b, rN c, 1, [], [], [], 0, [], 0⟩, rfl, fun y hy => (by cases hy), rfl⟩)
   ·by_cases hlen : (r.length : Int) + 4 = 6
    ·obtain ⟨p, n, rfl⟩ : ∃ (p : List UInt8) (n : List UInt8), r = [p, n] := by
      rcases r with _ | ⟨x1, _ | ⟨x2, _ | ⟨z, r⟩⟩⟩
      ·simp at hlen
      ·simp at hlen
      ·exact ⟨x1, x2, rfl⟩
      ·simp at hlen; omega
     have hL : ((wR (a :: b :: c :: d :: [p, n])).length : Int) = 6 := by simp
     have hnl : n.length ≤ 1000000 := hlw n (by simp)
     have gp : (wR (a :: b :: c :: d :: [p, n]))[4]? = some [T p] := rfl
     refine ZR ?_
     iterate 10 refine WX1 ?_
     first | refine ZS ?_ | (refine G1 rfl ?_; refine zf rfl Ybsr ?_; rintro _ _ ⟨vst, rfl, rfl⟩) | skip
     iterate 2 refine WX1 ?_
     first | refine ZP (ZJ (i := 2) (row := [I 6]) (KE (t := 22) rfl) rfl rfl rfl rfl rfl) ?_ | refine ZS ?_
     refine WE ?_
     refine za rfl ?_
     refine ZZ ?_
     refine WA ?_
     refine WA ?_
     refine zb rfl ?_
     refine ZZ ?_
     obtain ⟨qo, hqo⟩ : ∃ q, (numF n).isSome = q := ⟨_, rfl⟩
     refine ZR ?_
     iterate 4 refine WX1 ?_
     refine ZA (ZJ (i := 5) (row := [T n]) (KE (t := 61) rfl) rfl rfl rfl (by first | (simp; done) | (simp; exact Zwr (by omega))) rfl) ?_
     refine WO ?_
     refine zf rfl (zQ TabX (hX _ _) false (fun _ => zv2 n hnl) rfl .fn rfl (by decide) (by kernel_rfl) rfl (fun _ => C0 rfl) (by simp)) ?_
     rintro _ _ ⟨_, _, _, ⟨rfl, rfl⟩, hF, hH⟩
     rw [hqo] at hF
     (refine NST hF hH ?_; clear hF hH; rintro rfl rfl)
     refine WE ?_
     refine WA ?_
     cases qo with
     | false =>
      have hnv : numF n = none := by cases h : numF n with | none => rfl | some z => rw [h] at hqo; cases hqo
      refine zb rfl ?_
      refine ZZ ?_
      refine WA ?_
      rw [show argF a (rN b) (rN c) 2 [p, n] = none by simp [argF, hnv]]
      exact zu (us := [.a [.c (T a), .c (I (rN b)), .c (I (rN c)), .c (I 2), .c (T []), .c (T []), .c (T []), .c (I 0), .c (T []), .c (I 0)], .c (B false)]) [] (fun _ => .t [.a [.c (T a), .c (I (rN b)), .c (I (rN c)), .c (I 2), .c (T []), .c (T []), .c (T []), .c (I 0), .c (T []), .c (I 0)], .c (B false)]) (fun _ => []) (.cella (n := 10) rfl (by kernel_rfl) (Cells.box rfl) (by simp) (by (try simp only [nm, putL, Nat.reduceAdd, cellsOf, cvOf]) <;> rfl) (.tmp rfl .nil)) (by decide) (ZNK rfl) (fun _ => .tL (.cons (.aL (C0 rfl)) (.cons (.c rfl) .nil))) ZCH (fun _ => ⟨⟨a, rN b, rN c, 2, [], [], [], 0, [], 0⟩, rfl, fun y hy => (by cases hy), rfl⟩)
     | true =>
      obtain ⟨z, hz⟩ : ∃ z, numF n = some z := Option.isSome_iff_exists.1 hqo
      have hnv : numF n = some (rN n) := by rw [zq3 hz]; exact hz
      refine za rfl ?_
      refine ZZ ?_
      refine WA ?_
      refine za rfl ?_
      refine ZZ ?_
      refine WA ?_
      refine WA ?_
      refine WA ?_
      refine za rfl ?_
      refine ZZ ?_
      refine WA ?_
      refine za rfl ?_
      refine ZZ ?_
      refine WA ?_
      rw [show argF a (rN b) (rN c) 2 [p, n] = some (⟨a, rN b, rN c, 2, p, [], [], rN n, [], 0⟩ : Nt) from by simp [argF, hnv]]
      exact zu (us := [.a [.c (T a), .c (I (rN b)), .c (I (rN c)), .c (I 2), .c (T p), .c (T []), .c (T []), .c (I (rN n)), .c (T []), .c (I 0)], .c (B true)]) [] (fun _ => .t [.a [.c (T a), .c (I (rN b)), .c (I (rN c)), .c (I 2), .c (T p), .c (T []), .c (T []), .c (I (rN n)), .c (T []), .c (I 0)], .c (B true)]) (fun _ => []) (.cella (n := 10) rfl (by kernel_rfl) (Cells.box rfl) (by simp) (by (try simp only [nm, putL, Nat.reduceAdd, cellsOf, cvOf]) <;> rfl) (.tmp rfl .nil)) (by decide) (ZNK rfl) (fun _ => .tL (.cons (.aL (C0 rfl)) (.cons (.c rfl) .nil))) ZCH (fun _ => ⟨_, rfl, fun y hy => Option.some.inj hy, rfl⟩)
    ·have hL : ¬ ((wR (a :: b :: c :: d :: r)).length : Int) = 6 := by simp; omega
     have hL2 : ¬ (([T a] :: [T b] :: [T c] :: [T d] :: List.map (fun w => [T w]) r).length : Int) = 6 := hL
     have hnn : argF a (rN b) (rN c) 2 r = none := by
      cases hx : argF a (rN b) (rN c) 2 r with
      | none => rfl
      | some y => exact absurd (za3 hx) hlen
     rw [hnn]
     refine ZR ?_
     iterate 10 refine WX1 ?_
     first | refine ZS ?_ | (refine G1 rfl ?_; refine zf rfl Ybsr ?_; rintro _ _ ⟨vst, rfl, rfl⟩) | skip
     iterate 2 refine WX1 ?_
     first | refine ZP (ZJ (i := 2) (row := [I 6]) (KE (t := 22) rfl) rfl rfl rfl rfl rfl) ?_ | refine ZS ?_
     refine WE ?_
     refine zb rfl ?_
     refine ZZ ?_
     refine WA ?_
     exact zu (us := [.a [.c (T a), .c (I (rN b)), .c (I (rN c)), .c (I 2), .c (T []), .c (T []), .c (T []), .c (I 0), .c (T []), .c (I 0)], .c (B false)]) [] (fun _ => .t [.a [.c (T a), .c (I (rN b)), .c (I (rN c)), .c (I 2), .c (T []), .c (T []), .c (T []), .c (I 0), .c (T []), .c (I 0)], .c (B false)]) (fun _ => []) (.cella (n := 10) rfl (by kernel_rfl) (Cells.box rfl) (by simp) (by (try simp only [nm, putL, Nat.reduceAdd, cellsOf, cvOf]) <;> rfl) (.tmp rfl .nil)) (by decide) (ZNK rfl) (fun _ => .tL (.cons (.aL (C0 rfl)) (.cons (.c rfl) .nil))) ZCH (fun _ => ⟨⟨a, rN b, rN c, 2, [], [], [], 0, [], 0⟩, rfl, fun y hy => (by cases hy), rfl⟩)
   ·by_cases hlen : (r.length : Int) + 4 = 5
    ·obtain ⟨p, rfl⟩ : ∃ (p : List UInt8), r = [p] := by
      rcases r with _ | ⟨x1, _ | ⟨z, r⟩⟩
      ·simp at hlen
      ·exact ⟨x1, rfl⟩
      ·simp at hlen; omega
     have hL : ((wR (a :: b :: c :: d :: [p])).length : Int) = 5 := by simp
     have gp : (wR (a :: b :: c :: d :: [p]))[4]? = some [T p] := rfl
     refine ZR ?_
     iterate 10 refine WX1 ?_
     first | refine ZS ?_ | (refine G1 rfl ?_; refine zf rfl Ybsr ?_; rintro _ _ ⟨vst, rfl, rfl⟩) | skip
     iterate 2 refine WX1 ?_
     first | refine ZP (ZJ (i := 3) (row := [I 5]) (KE (t := 22) rfl) rfl rfl rfl rfl rfl) ?_ | refine ZS ?_
     refine WE ?_
     refine za rfl ?_
     refine ZZ ?_
     refine WA ?_
     refine WA ?_
     refine za rfl ?_
     refine ZZ ?_
     refine WA ?_
     refine za rfl ?_
     refine ZZ ?_
     refine WA ?_
     refine WA ?_
     refine WA ?_
     refine za rfl ?_
     refine ZZ ?_
     refine WA ?_
     refine za rfl ?_
     refine ZZ ?_
     refine WA ?_
     rw [show argF a (rN b) (rN c) 3 [p] = some (⟨a, rN b, rN c, 3, p, [], [], 0, [], 0⟩ : Nt) from rfl]
     exact zu (us := [.a [.c (T a), .c (I (rN b)), .c (I (rN c)), .c (I 3), .c (T p), .c (T []), .c (T []), .c (I 0), .c (T []), .c (I 0)], .c (B true)]) [] (fun _ => .t [.a [.c (T a), .c (I (rN b)), .c (I (rN c)), .c (I 3), .c (T p), .c (T []), .c (T []), .c (I 0), .c (T []), .c (I 0)], .c (B true)]) (fun _ => []) (.cella (n := 10) rfl (by kernel_rfl) (Cells.box rfl) (by simp) (by (try simp only [nm, putL, Nat.reduceAdd, cellsOf, cvOf]) <;> rfl) (.tmp rfl .nil)) (by decide) (ZNK rfl) (fun _ => .tL (.cons (.aL (C0 rfl)) (.cons (.c rfl) .nil))) ZCH (fun _ => ⟨_, rfl, fun y hy => Option.some.inj hy, rfl⟩)
    ·have hL : ¬ ((wR (a :: b :: c :: d :: r)).length : Int) = 5 := by simp; omega
     have hL2 : ¬ (([T a] :: [T b] :: [T c] :: [T d] :: List.map (fun w => [T w]) r).length : Int) = 5 := hL
     have hnn : argF a (rN b) (rN c) 3 r = none := by
      cases hx : argF a (rN b) (rN c) 3 r with
      | none => rfl
      | some y => exact absurd (za3 hx) hlen
     rw [hnn]
     refine ZR ?_
     iterate 10 refine WX1 ?_
     first | refine ZS ?_ | (refine G1 rfl ?_; refine zf rfl Ybsr ?_; rintro _ _ ⟨vst, rfl, rfl⟩) | skip
     iterate 2 refine WX1 ?_
     first | refine ZP (ZJ (i := 3) (row := [I 5]) (KE (t := 22) rfl) rfl rfl rfl rfl rfl) ?_ | refine ZS ?_
     refine WE ?_
     refine zb rfl ?_
     refine ZZ ?_
     refine WA ?_
     exact zu (us := [.a [.c (T a), .c (I (rN b)), .c (I (rN c)), .c (I 3), .c (T []), .c (T []), .c (T []), .c (I 0), .c (T []), .c (I 0)], .c (B false)]) [] (fun _ => .t [.a [.c (T a), .c (I (rN b)), .c (I (rN c)), .c (I 3), .c (T []), .c (T []), .c (T []), .c (I 0), .c (T []), .c (I 0)], .c (B false)]) (fun _ => []) (.cella (n := 10) rfl (by kernel_rfl) (Cells.box rfl) (by simp) (by (try simp only [nm, putL, Nat.reduceAdd, cellsOf, cvOf]) <;> rfl) (.tmp rfl .nil)) (by decide) (ZNK rfl) (fun _ => .tL (.cons (.aL (C0 rfl)) (.cons (.c rfl) .nil))) ZCH (fun _ => ⟨⟨a, rN b, rN c, 3, [], [], [], 0, [], 0⟩, rfl, fun y hy => (by cases hy), rfl⟩)
   ·by_cases hlen : (r.length : Int) + 4 = 5
    ·obtain ⟨p, rfl⟩ : ∃ (p : List UInt8), r = [p] := by
      rcases r with _ | ⟨x1, _ | ⟨z, r⟩⟩
      ·simp at hlen
      ·exact ⟨x1, rfl⟩
      ·simp at hlen; omega
     have hL : ((wR (a :: b :: c :: d :: [p])).length : Int) = 5 := by simp
     have gp : (wR (a :: b :: c :: d :: [p]))[4]? = some [T p] := rfl
     refine ZR ?_
     iterate 10 refine WX1 ?_
     first | refine ZS ?_ | (refine G1 rfl ?_; refine zf rfl Ybsr ?_; rintro _ _ ⟨vst, rfl, rfl⟩) | skip
     iterate 2 refine WX1 ?_
     first | refine ZP (ZJ (i := 4) (row := [I 5]) (KE (t := 22) rfl) rfl rfl rfl rfl rfl) ?_ | refine ZS ?_
     refine WE ?_
     refine za rfl ?_
     refine ZZ ?_
     refine WA ?_
     refine WA ?_
     refine za rfl ?_
     refine ZZ ?_
     refine WA ?_
     refine za rfl ?_
     refine ZZ ?_
     refine WA ?_
     refine WA ?_
     refine WA ?_
     refine za rfl ?_
     refine ZZ ?_
     refine WA ?_
     refine za rfl ?_
     refine ZZ ?_
     refine WA ?_
     rw [show argF a (rN b) (rN c) 4 [p] = some (⟨a, rN b, rN c, 4, p, [], [], 0, [], 0⟩ : Nt) from rfl]
     exact zu (us := [.a [.c (T a), .c (I (rN b)), .c (I (rN c)), .c (I 4), .c (T p), .c (T []), .c (T []), .c (I 0), .c (T []), .c (I 0)], .c (B true)]) [] (fun _ => .t [.a [.c (T a), .c (I (rN b)), .c (I (rN c)), .c (I 4), .c (T p), .c (T []), .c (T []), .c (I 0), .c (T []), .c (I 0)], .c (B true)]) (fun _ => []) (.cella (n := 10) rfl (by kernel_rfl) (Cells.box rfl) (by simp) (by (try simp only [nm, putL, Nat.reduceAdd, cellsOf, cvOf]) <;> rfl) (.tmp rfl .nil)) (by decide) (ZNK rfl) (fun _ => .tL (.cons (.aL (C0 rfl)) (.cons (.c rfl) .nil))) ZCH (fun _ => ⟨_, rfl, fun y hy => Option.some.inj hy, rfl⟩)
    ·have hL : ¬ ((wR (a :: b :: c :: d :: r)).length : Int) = 5 := by simp; omega
     have hL2 : ¬ (([T a] :: [T b] :: [T c] :: [T d] :: List.map (fun w => [T w]) r).length : Int) = 5 := hL
     have hnn : argF a (rN b) (rN c) 4 r = none := by
      cases hx : argF a (rN b) (rN c) 4 r with
      | none => rfl
      | some y => exact absurd (za3 hx) hlen
     rw [hnn]
     refine ZR ?_
     iterate 10 refine WX1 ?_
     first | refine ZS ?_ | (refine G1 rfl ?_; refine zf rfl Ybsr ?_; rintro _ _ ⟨vst, rfl, rfl⟩) | skip
     iterate 2 refine WX1 ?_
     first | refine ZP (ZJ (i := 4) (row := [I 5]) (KE (t := 22) rfl) rfl rfl rfl rfl rfl) ?_ | refine ZS ?_
     refine WE ?_
     refine zb rfl ?_
     refine ZZ ?_
     refine WA ?_
     exact zu (us := [.a [.c (T a), .c (I (rN b)), .c (I (rN c)), .c (I 4), .c (T []), .c (T []), .c (T []), .c (I 0), .c (T []), .c (I 0)], .c (B false)]) [] (fun _ => .t [.a [.c (T a), .c (I (rN b)), .c (I (rN c)), .c (I 4), .c (T []), .c (T []), .c (T []), .c (I 0), .c (T []), .c (I 0)], .c (B false)]) (fun _ => []) (.cella (n := 10) rfl (by kernel_rfl) (Cells.box rfl) (by simp) (by (try simp only [nm, putL, Nat.reduceAdd, cellsOf, cvOf]) <;> rfl) (.tmp rfl .nil)) (by decide) (ZNK rfl) (fun _ => .tL (.cons (.aL (C0 rfl)) (.cons (.c rfl) .nil))) ZCH (fun _ => ⟨⟨a, rN b, rN c, 4, [], [], [], 0, [], 0⟩, rfl, fun y hy => (by cases hy), rfl⟩)
   ·by_cases hlen : (r.length : Int) + 4 = 7
    ·obtain ⟨p, q, n, rfl⟩ : ∃ (p : List UInt8) (q : List UInt8) (n : List UInt8), r = [p, q, n] := by
      rcases r with _ | ⟨x1, _ | ⟨x2, _ | ⟨x3, _ | ⟨z, r⟩⟩⟩⟩
      ·simp at hlen
      ·simp at hlen
      ·simp at hlen
      ·exact ⟨x1, x2, x3, rfl⟩
      ·simp at hlen; omega
     have hL : ((wR (a :: b :: c :: d :: [p, q, n])).length : Int) = 7 := by simp
     have hnl : n.length ≤ 1000000 := hlw n (by simp)
     have gp : (wR (a :: b :: c :: d :: [p, q, n]))[4]? = some [T p] := rfl
     have gq : (wR (a :: b :: c :: d :: [p, q, n]))[5]? = some [T q] := rfl
     refine ZR ?_
     iterate 10 refine WX1 ?_
     first | refine ZS ?_ | (refine G1 rfl ?_; refine zf rfl Ybsr ?_; rintro _ _ ⟨vst, rfl, rfl⟩) | skip
     iterate 2 refine WX1 ?_
     first | refine ZP (ZJ (i := 5) (row := [I 7]) (KE (t := 22) rfl) rfl rfl rfl rfl rfl) ?_ | refine ZS ?_
     refine WE ?_
     refine za rfl ?_
     refine ZZ ?_
     refine WA ?_
     refine WA ?_
     refine zb rfl ?_
     refine ZZ ?_
     obtain ⟨qo, hqo⟩ : ∃ q, (numF n).isSome = q := ⟨_, rfl⟩
     refine ZR ?_
     iterate 4 refine WX1 ?_
     refine ZA (ZJ (i := 6) (row := [T n]) (KE (t := 61) rfl) rfl rfl rfl (by first | (simp; done) | (simp; exact Zwr (by omega))) rfl) ?_
     refine WO ?_
     refine zf rfl (zQ TabX (hX _ _) false (fun _ => zv2 n hnl) rfl .fn rfl (by decide) (by kernel_rfl) rfl (fun _ => C0 rfl) (by simp)) ?_
     rintro _ _ ⟨_, _, _, ⟨rfl, rfl⟩, hF, hH⟩
     rw [hqo] at hF
     (refine NST hF hH ?_; clear hF hH; rintro rfl rfl)
     refine WE ?_
     refine WA ?_
     cases qo with
     | false =>
      have hnv : numF n = none := by cases h : numF n with | none => rfl | some z => rw [h] at hqo; cases hqo
      refine zb rfl ?_
      refine ZZ ?_
      refine WA ?_
      rw [show argF a (rN b) (rN c) 5 [p, q, n] = none by simp [argF, hnv]]
      exact zu (us := [.a [.c (T a), .c (I (rN b)), .c (I (rN c)), .c (I 5), .c (T []), .c (T []), .c (T []), .c (I 0), .c (T []), .c (I 0)], .c (B false)]) [] (fun _ => .t [.a [.c (T a), .c (I (rN b)), .c (I (rN c)), .c (I 5), .c (T []), .c (T []), .c (T []), .c (I 0), .c (T []), .c (I 0)], .c (B false)]) (fun _ => []) (.cella (n := 10) rfl (by kernel_rfl) (Cells.box rfl) (by simp) (by (try simp only [nm, putL, Nat.reduceAdd, cellsOf, cvOf]) <;> rfl) (.tmp rfl .nil)) (by decide) (ZNK rfl) (fun _ => .tL (.cons (.aL (C0 rfl)) (.cons (.c rfl) .nil))) ZCH (fun _ => ⟨⟨a, rN b, rN c, 5, [], [], [], 0, [], 0⟩, rfl, fun y hy => (by cases hy), rfl⟩)
     | true =>
      obtain ⟨z, hz⟩ : ∃ z, numF n = some z := Option.isSome_iff_exists.1 hqo
      have hnv : numF n = some (rN n) := by rw [zq3 hz]; exact hz
      refine za rfl ?_
      refine ZZ ?_
      refine WA ?_
      refine za rfl ?_
      refine ZZ ?_
      refine WA ?_
      refine WA ?_
      refine WA ?_
      refine za rfl ?_
      refine ZZ ?_
      refine WA ?_
      refine zb rfl ?_
      refine ZZ ?_
      refine WA ?_
      refine WA ?_
      rw [show argF a (rN b) (rN c) 5 [p, q, n] = some (⟨a, rN b, rN c, 5, p, [], q, rN n, [], 0⟩ : Nt) from by simp [argF, hnv]]
      exact zu (us := [.a [.c (T a), .c (I (rN b)), .c (I (rN c)), .c (I 5), .c (T p), .c (T []), .c (T q), .c (I (rN n)), .c (T []), .c (I 0)], .c (B true)]) [] (fun _ => .t [.a [.c (T a), .c (I (rN b)), .c (I (rN c)), .c (I 5), .c (T p), .c (T []), .c (T q), .c (I (rN n)), .c (T []), .c (I 0)], .c (B true)]) (fun _ => []) (.cella (n := 10) rfl (by kernel_rfl) (Cells.box rfl) (by simp) (by (try simp only [nm, putL, Nat.reduceAdd, cellsOf, cvOf]) <;> rfl) (.tmp rfl .nil)) (by decide) (ZNK rfl) (fun _ => .tL (.cons (.aL (C0 rfl)) (.cons (.c rfl) .nil))) ZCH (fun _ => ⟨_, rfl, fun y hy => Option.some.inj hy, rfl⟩)
    ·have hL : ¬ ((wR (a :: b :: c :: d :: r)).length : Int) = 7 := by simp; omega
     have hL2 : ¬ (([T a] :: [T b] :: [T c] :: [T d] :: List.map (fun w => [T w]) r).length : Int) = 7 := hL
     have hnn : argF a (rN b) (rN c) 5 r = none := by
      cases hx : argF a (rN b) (rN c) 5 r with
      | none => rfl
      | some y => exact absurd (za3 hx) hlen
     rw [hnn]
     refine ZR ?_
     iterate 10 refine WX1 ?_
     first | refine ZS ?_ | (refine G1 rfl ?_; refine zf rfl Ybsr ?_; rintro _ _ ⟨vst, rfl, rfl⟩) | skip
     iterate 2 refine WX1 ?_
     first | refine ZP (ZJ (i := 5) (row := [I 7]) (KE (t := 22) rfl) rfl rfl rfl rfl rfl) ?_ | refine ZS ?_
     refine WE ?_
     refine zb rfl ?_
     refine ZZ ?_
     refine WA ?_
     exact zu (us := [.a [.c (T a), .c (I (rN b)), .c (I (rN c)), .c (I 5), .c (T []), .c (T []), .c (T []), .c (I 0), .c (T []), .c (I 0)], .c (B false)]) [] (fun _ => .t [.a [.c (T a), .c (I (rN b)), .c (I (rN c)), .c (I 5), .c (T []), .c (T []), .c (T []), .c (I 0), .c (T []), .c (I 0)], .c (B false)]) (fun _ => []) (.cella (n := 10) rfl (by kernel_rfl) (Cells.box rfl) (by simp) (by (try simp only [nm, putL, Nat.reduceAdd, cellsOf, cvOf]) <;> rfl) (.tmp rfl .nil)) (by decide) (ZNK rfl) (fun _ => .tL (.cons (.aL (C0 rfl)) (.cons (.c rfl) .nil))) ZCH (fun _ => ⟨⟨a, rN b, rN c, 5, [], [], [], 0, [], 0⟩, rfl, fun y hy => (by cases hy), rfl⟩)
   ·by_cases hlen : (r.length : Int) + 4 = 6
    ·obtain ⟨p, n, rfl⟩ : ∃ (p : List UInt8) (n : List UInt8), r = [p, n] := by
      rcases r with _ | ⟨x1, _ | ⟨x2, _ | ⟨z, r⟩⟩⟩
      ·simp at hlen
      ·simp at hlen
      ·exact ⟨x1, x2, rfl⟩
      ·simp at hlen; omega
     have hL : ((wR (a :: b :: c :: d :: [p, n])).length : Int) = 6 := by simp
     have hnl : n.length ≤ 1000000 := hlw n (by simp)
     have gp : (wR (a :: b :: c :: d :: [p, n]))[4]? = some [T p] := rfl
     refine ZR ?_
     iterate 10 refine WX1 ?_
     first | refine ZS ?_ | (refine G1 rfl ?_; refine zf rfl Ybsr ?_; rintro _ _ ⟨vst, rfl, rfl⟩) | skip
     iterate 2 refine WX1 ?_
     first | refine ZP (ZJ (i := 6) (row := [I 6]) (KE (t := 22) rfl) rfl rfl rfl rfl rfl) ?_ | refine ZS ?_
     refine WE ?_
     refine za rfl ?_
     refine ZZ ?_
     refine WA ?_
     refine WA ?_
     refine zb rfl ?_
     refine ZZ ?_
     obtain ⟨qo, hqo⟩ : ∃ q, (numF n).isSome = q := ⟨_, rfl⟩
     refine ZR ?_
     iterate 4 refine WX1 ?_
     refine ZA (ZJ (i := 5) (row := [T n]) (KE (t := 61) rfl) rfl rfl rfl (by first | (simp; done) | (simp; exact Zwr (by omega))) rfl) ?_
     refine WO ?_
     refine zf rfl (zQ TabX (hX _ _) false (fun _ => zv2 n hnl) rfl .fn rfl (by decide) (by kernel_rfl) rfl (fun _ => C0 rfl) (by simp)) ?_
     rintro _ _ ⟨_, _, _, ⟨rfl, rfl⟩, hF, hH⟩
     rw [hqo] at hF
     (refine NST hF hH ?_; clear hF hH; rintro rfl rfl)
     refine WE ?_
     refine WA ?_
     cases qo with
     | false =>
      have hnv : numF n = none := by cases h : numF n with | none => rfl | some z => rw [h] at hqo; cases hqo
      refine zb rfl ?_
      refine ZZ ?_
      refine WA ?_
      rw [show argF a (rN b) (rN c) 6 [p, n] = none by simp [argF, hnv]]
      exact zu (us := [.a [.c (T a), .c (I (rN b)), .c (I (rN c)), .c (I 6), .c (T []), .c (T []), .c (T []), .c (I 0), .c (T []), .c (I 0)], .c (B false)]) [] (fun _ => .t [.a [.c (T a), .c (I (rN b)), .c (I (rN c)), .c (I 6), .c (T []), .c (T []), .c (T []), .c (I 0), .c (T []), .c (I 0)], .c (B false)]) (fun _ => []) (.cella (n := 10) rfl (by kernel_rfl) (Cells.box rfl) (by simp) (by (try simp only [nm, putL, Nat.reduceAdd, cellsOf, cvOf]) <;> rfl) (.tmp rfl .nil)) (by decide) (ZNK rfl) (fun _ => .tL (.cons (.aL (C0 rfl)) (.cons (.c rfl) .nil))) ZCH (fun _ => ⟨⟨a, rN b, rN c, 6, [], [], [], 0, [], 0⟩, rfl, fun y hy => (by cases hy), rfl⟩)
     | true =>
      obtain ⟨z, hz⟩ : ∃ z, numF n = some z := Option.isSome_iff_exists.1 hqo
      have hnv : numF n = some (rN n) := by rw [zq3 hz]; exact hz
      refine za rfl ?_
      refine ZZ ?_
      refine WA ?_
      refine za rfl ?_
      refine ZZ ?_
      refine WA ?_
      refine WA ?_
      refine WA ?_
      refine za rfl ?_
      refine ZZ ?_
      refine WA ?_
      refine za rfl ?_
      refine ZZ ?_
      refine WA ?_
      rw [show argF a (rN b) (rN c) 6 [p, n] = some (⟨a, rN b, rN c, 6, p, [], [], rN n, [], 0⟩ : Nt) from by simp [argF, hnv]]
      exact zu (us := [.a [.c (T a), .c (I (rN b)), .c (I (rN c)), .c (I 6), .c (T p), .c (T []), .c (T []), .c (I (rN n)), .c (T []), .c (I 0)], .c (B true)]) [] (fun _ => .t [.a [.c (T a), .c (I (rN b)), .c (I (rN c)), .c (I 6), .c (T p), .c (T []), .c (T []), .c (I (rN n)), .c (T []), .c (I 0)], .c (B true)]) (fun _ => []) (.cella (n := 10) rfl (by kernel_rfl) (Cells.box rfl) (by simp) (by (try simp only [nm, putL, Nat.reduceAdd, cellsOf, cvOf]) <;> rfl) (.tmp rfl .nil)) (by decide) (ZNK rfl) (fun _ => .tL (.cons (.aL (C0 rfl)) (.cons (.c rfl) .nil))) ZCH (fun _ => ⟨_, rfl, fun y hy => Option.some.inj hy, rfl⟩)
    ·have hL : ¬ ((wR (a :: b :: c :: d :: r)).length : Int) = 6 := by simp; omega
     have hL2 : ¬ (([T a] :: [T b] :: [T c] :: [T d] :: List.map (fun w => [T w]) r).length : Int) = 6 := hL
     have hnn : argF a (rN b) (rN c) 6 r = none := by
      cases hx : argF a (rN b) (rN c) 6 r with
      | none => rfl
      | some y => exact absurd (za3 hx) hlen
     rw [hnn]
     refine ZR ?_
     iterate 10 refine WX1 ?_
     first | refine ZS ?_ | (refine G1 rfl ?_; refine zf rfl Ybsr ?_; rintro _ _ ⟨vst, rfl, rfl⟩) | skip
     iterate 2 refine WX1 ?_
     first | refine ZP (ZJ (i := 6) (row := [I 6]) (KE (t := 22) rfl) rfl rfl rfl rfl rfl) ?_ | refine ZS ?_
     refine WE ?_
     refine zb rfl ?_
     refine ZZ ?_
     refine WA ?_
     exact zu (us := [.a [.c (T a), .c (I (rN b)), .c (I (rN c)), .c (I 6), .c (T []), .c (T []), .c (T []), .c (I 0), .c (T []), .c (I 0)], .c (B false)]) [] (fun _ => .t [.a [.c (T a), .c (I (rN b)), .c (I (rN c)), .c (I 6), .c (T []), .c (T []), .c (T []), .c (I 0), .c (T []), .c (I 0)], .c (B false)]) (fun _ => []) (.cella (n := 10) rfl (by kernel_rfl) (Cells.box rfl) (by simp) (by (try simp only [nm, putL, Nat.reduceAdd, cellsOf, cvOf]) <;> rfl) (.tmp rfl .nil)) (by decide) (ZNK rfl) (fun _ => .tL (.cons (.aL (C0 rfl)) (.cons (.c rfl) .nil))) ZCH (fun _ => ⟨⟨a, rN b, rN c, 6, [], [], [], 0, [], 0⟩, rfl, fun y hy => (by cases hy), rfl⟩)
   ·by_cases hlen : (r.length : Int) + 4 = 6
    ·obtain ⟨p, n, rfl⟩ : ∃ (p : List UInt8) (n : List UInt8), r = [p, n] := by
      rcases r with _ | ⟨x1, _ | ⟨x2, _ | ⟨z, r⟩⟩⟩
      ·simp at hlen
      ·simp at hlen
      ·exact ⟨x1, x2, rfl⟩
      ·simp at hlen; omega
     have hL : ((wR (a :: b :: c :: d :: [p, n])).length : Int) = 6 := by simp
     have hnl : n.length ≤ 1000000 := hlw n (by simp)
     have gp : (wR (a :: b :: c :: d :: [p, n]))[4]? = some [T p] := rfl
     refine ZR ?_
     iterate 10 refine WX1 ?_
     first | refine ZS ?_ | (refine G1 rfl ?_; refine zf rfl Ybsr ?_; rintro _ _ ⟨vst, rfl, rfl⟩) | skip
     iterate 2 refine WX1 ?_
     first | refine ZP (ZJ (i := 7) (row := [I 6]) (KE (t := 22) rfl) rfl rfl rfl rfl rfl) ?_ | refine ZS ?_
     refine WE ?_
     refine za rfl ?_
     refine ZZ ?_
     refine WA ?_
     refine WA ?_
     refine zb rfl ?_
     refine ZZ ?_
     obtain ⟨qo, hqo⟩ : ∃ q, (numF n).isSome = q := ⟨_, rfl⟩
     refine ZR ?_
     iterate 4 refine WX1 ?_
     refine ZA (ZJ (i := 5) (row := [T n]) (KE (t := 61) rfl) rfl rfl rfl (by first | (simp; done) | (simp; exact Zwr (by omega))) rfl) ?_
     refine WO ?_
     refine zf rfl (zQ TabX (hX _ _) false (fun _ => zv2 n hnl) rfl .fn rfl (by decide) (by kernel_rfl) rfl (fun _ => C0 rfl) (by simp)) ?_
     rintro _ _ ⟨_, _, _, ⟨rfl, rfl⟩, hF, hH⟩
     rw [hqo] at hF
     (refine NST hF hH ?_; clear hF hH; rintro rfl rfl)
     refine WE ?_
     refine WA ?_
     cases qo with
     | false =>
      have hnv : numF n = none := by cases h : numF n with | none => rfl | some z => rw [h] at hqo; cases hqo
      refine zb rfl ?_
      refine ZZ ?_
      refine WA ?_
      rw [show argF a (rN b) (rN c) 7 [p, n] = none by simp [argF, hnv]]
      exact zu (us := [.a [.c (T a), .c (I (rN b)), .c (I (rN c)), .c (I 7), .c (T []), .c (T []), .c (T []), .c (I 0), .c (T []), .c (I 0)], .c (B false)]) [] (fun _ => .t [.a [.c (T a), .c (I (rN b)), .c (I (rN c)), .c (I 7), .c (T []), .c (T []), .c (T []), .c (I 0), .c (T []), .c (I 0)], .c (B false)]) (fun _ => []) (.cella (n := 10) rfl (by kernel_rfl) (Cells.box rfl) (by simp) (by (try simp only [nm, putL, Nat.reduceAdd, cellsOf, cvOf]) <;> rfl) (.tmp rfl .nil)) (by decide) (ZNK rfl) (fun _ => .tL (.cons (.aL (C0 rfl)) (.cons (.c rfl) .nil))) ZCH (fun _ => ⟨⟨a, rN b, rN c, 7, [], [], [], 0, [], 0⟩, rfl, fun y hy => (by cases hy), rfl⟩)
     | true =>
      obtain ⟨z, hz⟩ : ∃ z, numF n = some z := Option.isSome_iff_exists.1 hqo
      have hnv : numF n = some (rN n) := by rw [zq3 hz]; exact hz
      refine za rfl ?_
      refine ZZ ?_
      refine WA ?_
      refine zb rfl ?_
      refine ZZ ?_
      refine WA ?_
      refine WA ?_
      rw [show argF a (rN b) (rN c) 7 [p, n] = some (⟨a, rN b, rN c, 7, [], [], [], 0, p, rN n⟩ : Nt) from by simp [argF, hnv]]
      exact zu (us := [.a [.c (T a), .c (I (rN b)), .c (I (rN c)), .c (I 7), .c (T []), .c (T []), .c (T []), .c (I 0), .c (T p), .c (I (rN n))], .c (B true)]) [] (fun _ => .t [.a [.c (T a), .c (I (rN b)), .c (I (rN c)), .c (I 7), .c (T []), .c (T []), .c (T []), .c (I 0), .c (T p), .c (I (rN n))], .c (B true)]) (fun _ => []) (.cella (n := 10) rfl (by kernel_rfl) (Cells.box rfl) (by simp) (by (try simp only [nm, putL, Nat.reduceAdd, cellsOf, cvOf]) <;> rfl) (.tmp rfl .nil)) (by decide) (ZNK rfl) (fun _ => .tL (.cons (.aL (C0 rfl)) (.cons (.c rfl) .nil))) ZCH (fun _ => ⟨_, rfl, fun y hy => Option.some.inj hy, rfl⟩)
    ·have hL : ¬ ((wR (a :: b :: c :: d :: r)).length : Int) = 6 := by simp; omega
     have hL2 : ¬ (([T a] :: [T b] :: [T c] :: [T d] :: List.map (fun w => [T w]) r).length : Int) = 6 := hL
     have hnn : argF a (rN b) (rN c) 7 r = none := by
      cases hx : argF a (rN b) (rN c) 7 r with
      | none => rfl
      | some y => exact absurd (za3 hx) hlen
     rw [hnn]
     refine ZR ?_
     iterate 10 refine WX1 ?_
     first | refine ZS ?_ | (refine G1 rfl ?_; refine zf rfl Ybsr ?_; rintro _ _ ⟨vst, rfl, rfl⟩) | skip
     iterate 2 refine WX1 ?_
     first | refine ZP (ZJ (i := 7) (row := [I 6]) (KE (t := 22) rfl) rfl rfl rfl rfl rfl) ?_ | refine ZS ?_
     refine WE ?_
     refine zb rfl ?_
     refine ZZ ?_
     refine WA ?_
     exact zu (us := [.a [.c (T a), .c (I (rN b)), .c (I (rN c)), .c (I 7), .c (T []), .c (T []), .c (T []), .c (I 0), .c (T []), .c (I 0)], .c (B false)]) [] (fun _ => .t [.a [.c (T a), .c (I (rN b)), .c (I (rN c)), .c (I 7), .c (T []), .c (T []), .c (T []), .c (I 0), .c (T []), .c (I 0)], .c (B false)]) (fun _ => []) (.cella (n := 10) rfl (by kernel_rfl) (Cells.box rfl) (by simp) (by (try simp only [nm, putL, Nat.reduceAdd, cellsOf, cvOf]) <;> rfl) (.tmp rfl .nil)) (by decide) (ZNK rfl) (fun _ => .tL (.cons (.aL (C0 rfl)) (.cons (.c rfl) .nil))) ZCH (fun _ => ⟨⟨a, rN b, rN c, 7, [], [], [], 0, [], 0⟩, rfl, fun y hy => (by cases hy), rfl⟩)
end Go.Proofs.YtlhbfcfjepbhpaaGreatDoor
