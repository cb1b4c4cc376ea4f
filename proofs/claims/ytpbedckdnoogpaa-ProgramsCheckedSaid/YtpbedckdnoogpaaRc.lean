/- The reference's status after a step, by value. -/
import Derived.Test.YtpbedckdnoogpaaRb
set_option linter.unusedSimpArgs false
set_option linter.unusedVariables false
namespace Go.Proofs.Ytpbedckdnoogpaa
open Go Go.RowKit
set_option maxRecDepth 100000
structure Mach where
  x : Int
  y : Int
  z : Int
  sp : Int
  he : Int
  tl : Int
  fl : Int
  rel : Bool
abbrev Mach.row (m : Mach) : List CV := [I m.x, I m.y, I m.z, I m.sp, I m.he, I m.tl, I m.fl, B m.rel]
abbrev Mach.zero : Mach := ⟨0, 0, 0, 0, 0, 0, 0, false⟩
def relS (r : Bool) (a b : Int) : Int := if r = true then wrap64 (a + b) else b
/-- The status after a step. -/
def afterS (m : Mach) (s : Step) : Mach :=
  if s.k = 1 then { m with rel := false }
  else if s.k = 2 then { m with rel := true }
  else if s.k = 3 ∨ s.k = 4 then { m with x := relS m.rel m.x s.x, y := relS m.rel m.y s.y, fl := wrap64 (m.fl + s.f) }
  else if s.k = 5 then { m with z := relS m.rel m.z s.z }
  else if s.k = 6 then { m with sp := s.n }
  else if s.k = 8 then { m with he := s.n }
  else if s.k = 9 then { m with tl := s.n }
  else m
set_option maxHeartbeats 4000000 in
theorem qafter_a (m : Mach) (s : Step) (hs : s.ok) : ACalls Try.prog 97 [.a (m.row.map .c), .a (s.row.map .c)] [] fun u H => u = .a ((afterS m s).row.map .c) ∧ H = [] := by
  obtain ⟨mx, my, mz, msp, mhe, mtl, mfl, mrel⟩ := m
  obtain ⟨k, x, y, z, f, n⟩ := s
  obtain ⟨-, o2, o3, o4, o5, -⟩ := hs
  simp only [in64] at o2 o3 o4 o5
  refine acalls_of (N := 66) Try.func97 rfl rfl (by simp) fun E hE => ?_
  refine WA ?_
  refine WA ?_
  refine WA ?_
  refine aw_cut (fun F H => ∃ bx bz by_ : Int, (bx = if mrel = true then mx else 0) ∧ (by_ = if mrel = true then my else 0) ∧ (bz = if mrel = true then mz else 0) ∧ F = [(2, .p 0 0 0), (3, .p 1 0 0), (4, .p 2 0 0), (5, .c (I bx)), (6, .c (I by_)), (7, .c (I bz))] ∧ H = [.box ((⟨mx, my, mz, msp, mhe, mtl, mfl, mrel⟩ : Mach).row.map .c), .box ((⟨k, x, y, z, f, n⟩ : Step).row.map .c), .box (Mach.zero.row.map .c)]) ?_ ?_ wk_aw
  · refine aw_cond rfl (fun h => ?_) (fun h => ?_)
    · refine ZZ ?_
      refine aw_regionT [(0, none), (1, none), (2, none), (3, none), (4, none), (5, none), (6, none), (7, none), (8, none)] hMixed (by kernel_rfl) ?_
      refine WQ ?_
      refine wk_of [some 0, some 1, some 2] (fun _ => [(2, .p 0 0 0), (3, .p 1 0 0), (4, .p 2 0 0), (5, .c (I mx)), (6, .c (I my)), (7, .c (I mz))]) (fun _ => _) (by decide) (ZNL hE) ZCF ZCH (fun _ => ?_)
      exact ⟨_, _, _, by simp [h], by simp [h], by simp [h], rfl, rfl⟩
    · refine ZZ ?_
      refine wk_of [some 0, some 1, some 2] (fun _ => [(2, .p 0 0 0), (3, .p 1 0 0), (4, .p 2 0 0), (5, .c (I 0)), (6, .c (I 0)), (7, .c (I 0))]) (fun _ => _) (by decide) (ZNL hE) ZCF ZCH (fun _ => ?_)
      exact ⟨_, _, _, by simp [h], by simp [h], by simp [h], rfl, rfl⟩
  · rintro F H ⟨bx, bz, by_, hbx, hby, hbz, rfl, rfl⟩
    repeat' (first
      | (with_reducible refine aw_seq ?_) | (with_reducible refine aseq_n ?_) | (with_reducible refine aseq_r ?_) | (with_reducible refine ablk_n ?_) | (with_reducible refine ablk_r ?_) | (with_reducible refine ablk_e ?_) | (with_reducible refine ablk_o rfl ?_) | (with_reducible refine aseq_e ?_) | (with_reducible refine aw_skip ?_) | (with_reducible refine aw_block ?_) | (with_reducible refine aw_ret ?_) | (with_reducible refine aw_exit ?_)
      | refine aw_cond_t rfl ?_ | refine aw_cond_f rfl ?_ | refine aw_if_t rfl (by assumption) ?_ | refine aw_if_f rfl (by assumption) ?_ | refine aw_if rfl (fun _ => ?_) (fun _ => ?_) | refine aw_cond rfl (fun _ => ?_) (fun _ => ?_)
      | (refine aw_region (id := 0) ?_
         refine WE ?_)
      | (refine aw_region (id := 1) ?_
         refine WE ?_)
      | (refine aw_region (id := 2) ?_
         refine WE ?_)
      | (refine aw_region (id := 4) ?_
         refine WE ?_)
      | (refine aw_region (id := 5) ?_
         refine WE ?_)
      | (refine aw_region (id := 6) ?_
         refine WE ?_)
      | (refine aw_region (id := 7) ?_
         refine WE ?_)
      | (refine aw_region (id := 8) ?_
         refine WE ?_)
      | (refine aw_region (id := 9) ?_
         refine WE ?_)
      | (refine aw_region (id := 10) ?_
         refine WE ?_)
      | (refine aw_regionT (id := 11) [(0, none), (1, none), (2, none), (3, none), (4, none), (5, none), (6, none), (7, none), (8, none), (9, none), (10, none), (11, none), (12, none), (13, none), (14, some [4, 5, 6, 7, 10, 11, 12]), (15, none), (16, some [10, 11, 12]), (17, none), (18, some [])] hMixed (by kernel_rfl) ?_
         refine WQ ?_)
      | (refine aw_region (id := 12) ?_
         refine WE ?_)
      | (refine aw_region (id := 13) ?_
         refine WE ?_)
      | (refine aw_region (id := 14) ?_
         refine WE ?_)
      | (refine aw_region (id := 15) ?_
         refine WE ?_)
      | (refine aw_region (id := 16) ?_
         refine WE ?_)
      | (refine aw_region (id := 17) ?_
         refine WE ?_)
      | (refine aw_region (id := 18) ?_
         refine WE ?_)
      | (refine aw_region (id := 19) ?_
         refine WE ?_)
      | (refine aw_region (id := 20) ?_
         refine WE ?_))
    all_goals (refine aret_a [] _ rfl (KK (t := 42) rfl) rfl (Cells.box rfl) (by simp) (by (try simp only [nm, putL, Nat.reduceAdd, cellsOf, cvOf]) <;> rfl) (by decide) (ZNK rfl) (fun _ => C0 rfl) (fun _ => .nil) ⟨?_, rfl⟩)
    all_goals (clear hE; subst hbx hby hbz; try dsimp only at *)
    all_goals first
      | (exfalso; omega)
      | (have w1 := IntWalk.wrap64_in x o2; have w2 := IntWalk.wrap64_in y o3; have w3 := IntWalk.wrap64_in z o4; cases mrel <;> simp [afterS, relS, *])
end Go.Proofs.Ytpbedckdnoogpaa
