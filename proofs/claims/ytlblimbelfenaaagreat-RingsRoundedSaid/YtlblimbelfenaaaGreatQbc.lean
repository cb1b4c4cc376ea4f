/- What is wrong with the sides of a ring, by value. -/
import Derived.Test.YtlblimbelfenaaaGreatQbb
set_option linter.unusedSimpArgs false
set_option linter.unusedVariables false
/- What is wrong with the sides of a ring, by value. -/
namespace Go.Proofs.YtlblimbelfenaaaGreat
open Go Go.RowKit
set_option maxRecDepth 100000
def sfP (r : List P2) (i k : Nat) : Bool := metB (ptA r i) (ptA r ((i + 1) % r.length)) (ptA r k) (ptA r ((k + 1) % r.length))
def sfI (r : List P2) (i : Nat) : Bool := fldB (ptA r ((i + 1) % r.length)) (ptA r i) (ptA r ((i + 2) % r.length)) || (List.range r.length).any fun k => decide (i + 2 ≤ k ∧ ¬ (i = 0 ∧ k = r.length - 1)) && sfP r i k
def sfF (r : List P2) : Bool := (List.range r.length).any (sfI r)
theorem sfF_true {r : List P2} {i : Nat} (h : i < r.length) (hi : sfI r i = true) : sfF r = true := List.any_eq_true.2 ⟨i, List.mem_range.2 h, hi⟩
theorem sfF_false {r : List P2} (h : ∀ i < r.length, sfI r i = false) : sfF r = false := List.any_eq_false.2 fun i hi => by rw [h i (List.mem_range.1 hi)]; simp
theorem sfI_met {r : List P2} {i k : Nat} (h1 : i + 2 ≤ k) (h2 : k < r.length) (h3 : ¬ (i = 0 ∧ k = r.length - 1)) (h : sfP r i k = true) : sfI r i = true := by
 unfold sfI
 rw [Bool.or_eq_true]
 exact .inr (List.any_eq_true.2 ⟨k, List.mem_range.2 h2, by simp only [h, Bool.and_true, decide_eq_true_eq]; exact ⟨h1, h3⟩⟩)
theorem sfI_fol {r : List P2} {i : Nat} (h : fldB (ptA r ((i + 1) % r.length)) (ptA r i) (ptA r ((i + 2) % r.length)) = true) : sfI r i = true := by
 unfold sfI; rw [h, Bool.true_or]
theorem sfI_no {r : List P2} {i : Nat} (h : fldB (ptA r ((i + 1) % r.length)) (ptA r i) (ptA r ((i + 2) % r.length)) = false) (hk : ∀ k < r.length, i + 2 ≤ k → ¬ (i = 0 ∧ k = r.length - 1) → sfP r i k = false) : sfI r i = false := by
 unfold sfI
 rw [h, Bool.false_or]
 refine List.any_eq_false.2 fun k hk2 => ?_
 by_cases hc : i + 2 ≤ k ∧ ¬ (i = 0 ∧ k = r.length - 1)
 ·rw [hk k (List.mem_range.1 hk2) hc.1 hc.2]; simp
 ·rw [decide_eq_false hc]; simp
set_option maxHeartbeats 8000000 in
theorem sidesf_v (r : List P2) (v : Value) (hl : r.length ≤ 1000000) (hp : ∀ p ∈ r, p.in) : ACalls Tryz.prog 208 [.c (.r v (pR r))] [] fun u H => u = .c (I (if sfF r = true then 13 else 0)) ∧ H = [] := by
 have e1 : (pR r).length = r.length := by simp
 refine acalls_of (N := 69) Tryz.func208 rfl rfl (by simp) fun E hE => ?_
 refine WA ?_
 refine WA ?_
 refine WA ?_
 refine aw_loopw (fun m F H => ∃ (i : Nat), m + i = r.length ∧ (∀ i' < i, sfI r i' = false) ∧ F = [(0, .c (.r v (pR r))), (3, .c (I (pR r).length)), (11, .c (I (pR r).length)), (12, .c (I i))] ∧ H = []) ?_ ?_
 ·refine wk_of [] (fun _ => [(0, .c (.r v (pR r))), (3, .c (I (pR r).length)), (11, .c (I (pR r).length)), (12, .c (I (0 : Nat)))]) (fun _ => _) (by decide) (ZNL hE) ZCF (fun _ => .nil) (fun _ => ?_)
  exact ⟨r.length, 0, by omega, fun _ h => by omega, rfl, rfl⟩
 rintro m F H ⟨i, hi, hno, rfl, rfl⟩
 refine WA ?_
 refine aw_if rfl (fun hlt => ?_) (fun hge => ?_)
 ·have hil : i < r.length := by omega
  have hj1 : (i + 1) % r.length < r.length := Nat.mod_lt _ (by omega)
  have hj2 : (i + 2) % r.length < r.length := Nat.mod_lt _ (by omega)
  have pA := ptA_in hp hil
  have pB := ptA_in hp hj1
  have pC := ptA_in hp hj2
  have rA := prow hil
  have rB := prow hj1
  have rC := prow hj2
  have hS : ∀ k, sfP r i k = metB (ptA r i) (ptA r ((i + 1) % r.length)) (ptA r k) (ptA r ((k + 1) % r.length)) := fun _ => rfl
  have h1 : fldB (ptA r ((i + 1) % r.length)) (ptA r i) (ptA r ((i + 2) % r.length)) = true → sfI r i = true := sfI_fol
  have h2 : fldB (ptA r ((i + 1) % r.length)) (ptA r i) (ptA r ((i + 2) % r.length)) = false → (∀ k < r.length, i + 2 ≤ k → ¬ (i = 0 ∧ k = r.length - 1) → sfP r i k = false) → sfI r i = false := sfI_no
  have m1 : (((i : Int) + 1) % (r.length : Int)) = ((i + 1) % r.length : Nat) := by simp
  have m2 : (((i : Int) + 2) % (r.length : Int)) = ((i + 2) % r.length : Nat) := by simp
  generalize (i + 1) % r.length = j1 at *
  generalize (i + 2) % r.length = j2 at *
  generalize ptA r i = A2 at *
  generalize ptA r j1 = B2 at *
  generalize ptA r j2 = C2 at *
  refine WA ?_
  refine aw_cut (fun F H => F = [(0, .c (.r v (pR r))), (3, .c (I (pR r).length)), (4, .c (I i)), (5, .p 0 0 0), (6, .p 1 0 0), (11, .c (I (pR r).length)), (12, .c (I i))] ∧ H = [.box [.c (I A2.x), .c (I A2.y)], .box [.c (I B2.x), .c (I B2.y)]]) ?_ ?_ wk_aw
  ·refine ZZ ?_
   refine aw_regionM [[(0, none), (1, none), (2, none), (3, none), (4, none), (5, none), (6, none), (7, none), (8, none), (9, none), (10, none), (11, some [0, 1, 2, 3, 4, 5, 6, 7, 8, 9, 10]), (12, some [0, 1, 2, 3, 4, 5, 6, 7, 8, 9, 10]), (13, some [4, 5, 6, 7, 8, 9, 10]), (14, some [])], [(0, none), (1, none), (2, none), (3, none), (4, none), (5, none), (6, none), (7, none), (8, none), (9, none), (10, none), (12, some [0, 1, 2, 3, 4, 5, 6, 7, 8, 9, 10]), (11, some [0, 1, 2, 3, 4, 5, 6, 7, 8, 9, 10]), (13, some [4, 5, 6, 7, 8, 9, 10]), (14, some [])]] hMixed (by kernel_rfl) ?_
   focus
    refine ZM (i := 0) (ps' := [[(1, none), (2, none), (3, none), (4, none), (5, none), (6, none), (7, none), (8, none), (9, none), (10, none), (11, some [0, 1, 2, 3, 4, 5, 6, 7, 8, 9, 10]), (12, some [0, 1, 2, 3, 4, 5, 6, 7, 8, 9, 10]), (13, some [4, 5, 6, 7, 8, 9, 10]), (14, some [])], [(1, none), (2, none), (3, none), (4, none), (5, none), (6, none), (7, none), (8, none), (9, none), (10, none), (12, some [0, 1, 2, 3, 4, 5, 6, 7, 8, 9, 10]), (11, some [0, 1, 2, 3, 4, 5, 6, 7, 8, 9, 10]), (13, some [4, 5, 6, 7, 8, 9, 10]), (14, some [])]]) (by rfl) (by rfl) rfl (rd_move rfl rfl) ?_
    refine ZM (i := 1) (ps' := [[(2, none), (3, none), (4, none), (5, none), (6, none), (7, none), (8, none), (9, none), (10, none), (11, some [0, 1, 2, 3, 4, 5, 6, 7, 8, 9, 10]), (12, some [0, 1, 2, 3, 4, 5, 6, 7, 8, 9, 10]), (13, some [4, 5, 6, 7, 8, 9, 10]), (14, some [])], [(2, none), (3, none), (4, none), (5, none), (6, none), (7, none), (8, none), (9, none), (10, none), (12, some [0, 1, 2, 3, 4, 5, 6, 7, 8, 9, 10]), (11, some [0, 1, 2, 3, 4, 5, 6, 7, 8, 9, 10]), (13, some [4, 5, 6, 7, 8, 9, 10]), (14, some [])]]) (by rfl) (by rfl) rfl (rd_move rfl rfl) ?_
    refine ZM (i := 2) (ps' := [[(3, none), (4, none), (5, none), (6, none), (7, none), (8, none), (9, none), (10, none), (11, some [0, 1, 2, 3, 4, 5, 6, 7, 8, 9, 10]), (12, some [0, 1, 2, 3, 4, 5, 6, 7, 8, 9, 10]), (13, some [4, 5, 6, 7, 8, 9, 10]), (14, some [])], [(3, none), (4, none), (5, none), (6, none), (7, none), (8, none), (9, none), (10, none), (12, some [0, 1, 2, 3, 4, 5, 6, 7, 8, 9, 10]), (11, some [0, 1, 2, 3, 4, 5, 6, 7, 8, 9, 10]), (13, some [4, 5, 6, 7, 8, 9, 10]), (14, some [])]]) (by rfl) (by rfl) rfl (rd_indexq (i := i) rfl (KE (t := 107) rfl) rfl rfl rfl rA rfl) ?_
    refine ZM (i := 3) (ps' := [[(4, none), (5, none), (6, none), (7, none), (8, none), (9, none), (10, none), (11, some [0, 1, 2, 3, 4, 5, 6, 7, 8, 9, 10]), (12, some [0, 1, 2, 3, 4, 5, 6, 7, 8, 9, 10]), (13, some [4, 5, 6, 7, 8, 9, 10]), (14, some [])], [(4, none), (5, none), (6, none), (7, none), (8, none), (9, none), (10, none), (12, some [0, 1, 2, 3, 4, 5, 6, 7, 8, 9, 10]), (11, some [0, 1, 2, 3, 4, 5, 6, 7, 8, 9, 10]), (13, some [4, 5, 6, 7, 8, 9, 10]), (14, some [])]]) (by rfl) (by rfl) rfl (ZK (KK (t := 119) rfl)) ?_
    refine ZM (i := 4) (ps' := [[(5, none), (6, none), (7, none), (8, none), (9, none), (10, none), (11, some [0, 1, 2, 3, 4, 5, 6, 7, 8, 9, 10]), (12, some [0, 1, 2, 3, 4, 5, 6, 7, 8, 9, 10]), (13, some [4, 5, 6, 7, 8, 9, 10]), (14, some [])], [(5, none), (6, none), (7, none), (8, none), (9, none), (10, none), (12, some [0, 1, 2, 3, 4, 5, 6, 7, 8, 9, 10]), (11, some [0, 1, 2, 3, 4, 5, 6, 7, 8, 9, 10]), (13, some [4, 5, 6, 7, 8, 9, 10]), (14, some [])]]) (by rfl) (by rfl) rfl (rd_move rfl rfl) ?_
    refine ZM (i := 5) (ps' := [[(6, none), (7, none), (8, none), (9, none), (10, none), (11, some [0, 1, 2, 3, 4, 5, 6, 7, 8, 9, 10]), (12, some [0, 1, 2, 3, 4, 5, 6, 7, 8, 9, 10]), (13, some [4, 5, 6, 7, 8, 9, 10]), (14, some [])], [(6, none), (7, none), (8, none), (9, none), (10, none), (12, some [0, 1, 2, 3, 4, 5, 6, 7, 8, 9, 10]), (11, some [0, 1, 2, 3, 4, 5, 6, 7, 8, 9, 10]), (13, some [4, 5, 6, 7, 8, 9, 10]), (14, some [])]]) (by rfl) (by rfl) rfl (rd_move rfl rfl) ?_
    refine ZM (i := 6) (ps' := [[(7, none), (8, none), (9, none), (10, none), (11, some [0, 1, 2, 3, 4, 5, 6, 7, 8, 9, 10]), (12, some [0, 1, 2, 3, 4, 5, 6, 7, 8, 9, 10]), (13, some [4, 5, 6, 7, 8, 9, 10]), (14, some [])], [(7, none), (8, none), (9, none), (10, none), (12, some [0, 1, 2, 3, 4, 5, 6, 7, 8, 9, 10]), (11, some [0, 1, 2, 3, 4, 5, 6, 7, 8, 9, 10]), (13, some [4, 5, 6, 7, 8, 9, 10]), (14, some [])]]) (by rfl) (by rfl) rfl Zadd ?_
    refine ZM (i := 7) (ps' := [[(8, none), (9, none), (10, none), (11, some [0, 1, 2, 3, 4, 5, 6, 7, 8, 9, 10]), (12, some [0, 1, 2, 3, 4, 5, 6, 7, 8, 9, 10]), (13, some [4, 5, 6, 7, 8, 9, 10]), (14, some [])], [(8, none), (9, none), (10, none), (12, some [0, 1, 2, 3, 4, 5, 6, 7, 8, 9, 10]), (11, some [0, 1, 2, 3, 4, 5, 6, 7, 8, 9, 10]), (13, some [4, 5, 6, 7, 8, 9, 10]), (14, some [])]]) (by rfl) (by rfl) rfl (rd_move rfl rfl) ?_
    refine ZM (i := 8) (ps' := [[(9, none), (10, none), (11, some [0, 1, 2, 3, 4, 5, 6, 7, 8, 9, 10]), (12, some [0, 1, 2, 3, 4, 5, 6, 7, 8, 9, 10]), (13, some [4, 5, 6, 7, 8, 9, 10]), (14, some [])], [(9, none), (10, none), (12, some [0, 1, 2, 3, 4, 5, 6, 7, 8, 9, 10]), (11, some [0, 1, 2, 3, 4, 5, 6, 7, 8, 9, 10]), (13, some [4, 5, 6, 7, 8, 9, 10]), (14, some [])]]) (by rfl) (by rfl) rfl (rd_remY (z := ((j1 : Nat) : Int)) rfl rfl rfl (by omega) (by rw [Int.tmod_eq_emod_of_nonneg (by omega)]; simpa using m1)) ?_
    refine ZM (i := 9) (ps' := [[(10, none), (11, some [0, 1, 2, 3, 4, 5, 6, 7, 8, 9, 10]), (12, some [0, 1, 2, 3, 4, 5, 6, 7, 8, 9, 10]), (13, some [4, 5, 6, 7, 8, 9, 10]), (14, some [])], [(10, none), (12, some [0, 1, 2, 3, 4, 5, 6, 7, 8, 9, 10]), (11, some [0, 1, 2, 3, 4, 5, 6, 7, 8, 9, 10]), (13, some [4, 5, 6, 7, 8, 9, 10]), (14, some [])]]) (by rfl) (by rfl) rfl (rd_indexq (i := j1) rfl (KE (t := 107) rfl) rfl rfl rfl rB rfl) ?_
    refine ZM (i := 10) (ps' := [[(11, some [0, 1, 2, 3, 4, 5, 6, 7, 8, 9, 10]), (12, some [0, 1, 2, 3, 4, 5, 6, 7, 8, 9, 10]), (13, some [4, 5, 6, 7, 8, 9, 10]), (14, some [])], [(12, some [0, 1, 2, 3, 4, 5, 6, 7, 8, 9, 10]), (11, some [0, 1, 2, 3, 4, 5, 6, 7, 8, 9, 10]), (13, some [4, 5, 6, 7, 8, 9, 10]), (14, some [])]]) (by rfl) (by rfl) rfl (ZK (KK (t := 119) rfl)) ?_
    refine am_two (ps1 := [[(12, some [0, 1, 2, 3, 4, 5, 6, 7, 8, 9, 10]), (13, some [4, 5, 6, 7, 8, 9, 10]), (14, some [])]]) (ps2 := [[(11, some [0, 1, 2, 3, 4, 5, 6, 7, 8, 9, 10]), (13, some [4, 5, 6, 7, 8, 9, 10]), (14, some [])]]) (by rfl) (by rfl) (by rfl) ?_ ?_
    rotate_left
    refine ZG (i := 12) (ps' := [[(11, some [0, 1, 2, 3, 4, 5, 6, 7, 8, 9, 10]), (13, some [4, 5, 6, 7, 8, 9, 10]), (14, some [])]]) (by rfl) (by rfl) rfl (Zall (KZ (t := 119) rfl)) (ag_cons (by first | exact ag_rd rfl rfl rfl (rd_move rfl rfl) rfl) (ag_cons (by first | exact ag_rd rfl rfl rfl (rd_move rfl rfl) rfl) (ag_cons (by first | exact ag_rd rfl rfl rfl (rd_indexq (i := i) rfl (KE (t := 107) rfl) rfl rfl rfl rA rfl) rfl) (ag_cons (by first | exact ag_rd rfl rfl rfl (ZK (KK (t := 119) rfl)) rfl) (ag_cons (by first | exact ag_rd rfl rfl rfl (rd_move rfl rfl) rfl) (ag_cons (by first | exact ag_rd rfl rfl rfl (rd_move rfl rfl) rfl) (ag_cons (by first | exact ag_rd rfl rfl rfl (Zadd) rfl) (ag_cons (by first | exact ag_rd rfl rfl rfl (rd_move rfl rfl) rfl) (ag_cons (by first | exact ag_rd rfl rfl rfl (rd_remY (z := ((j1 : Nat) : Int)) rfl rfl rfl (by omega) (by rw [Int.tmod_eq_emod_of_nonneg (by omega)]; simpa using m1)) rfl) (ag_cons (by first | exact ag_rd rfl rfl rfl (rd_indexq (i := j1) rfl (KE (t := 107) rfl) rfl rfl rfl rB rfl) rfl) (ag_cons (by first | exact ag_rd rfl rfl rfl (ZK (KK (t := 119) rfl)) rfl) (ag_none)))))))))))) ?_
    refine ZG (i := 11) (ps' := [[(13, some [4, 5, 6, 7, 8, 9, 10]), (14, some [])]]) (by rfl) (by rfl) rfl (Zall (KZ (t := 119) rfl)) (ag_cons (by first | exact ag_rd rfl rfl rfl (rd_move rfl rfl) rfl) (ag_cons (by first | exact ag_rd rfl rfl rfl (rd_move rfl rfl) rfl) (ag_cons (by first | exact ag_rd rfl rfl rfl (rd_indexq (i := i) rfl (KE (t := 107) rfl) rfl rfl rfl rA rfl) rfl) (ag_cons (by first | exact ag_rd rfl rfl rfl (ZK (KK (t := 119) rfl)) rfl) (ag_cons (by first | exact ag_rd rfl rfl rfl (rd_move rfl rfl) rfl) (ag_cons (by first | exact ag_rd rfl rfl rfl (rd_move rfl rfl) rfl) (ag_cons (by first | exact ag_rd rfl rfl rfl (Zadd) rfl) (ag_cons (by first | exact ag_rd rfl rfl rfl (rd_move rfl rfl) rfl) (ag_cons (by first | exact ag_rd rfl rfl rfl (rd_remY (z := ((j1 : Nat) : Int)) rfl rfl rfl (by omega) (by rw [Int.tmod_eq_emod_of_nonneg (by omega)]; simpa using m1)) rfl) (ag_cons (by first | exact ag_rd rfl rfl rfl (rd_indexq (i := j1) rfl (KE (t := 107) rfl) rfl rfl rfl rB rfl) rfl) (ag_cons (by first | exact ag_rd rfl rfl rfl (ZK (KK (t := 119) rfl)) rfl) (ag_none)))))))))))) ?_
    first | refine ZG (i := 13) (ps' := [[(14, some [])]]) (by rfl) (by rfl) rfl (Zsto (KS (t := 119) rfl)) (ag_cons (by first | exact ag_rd rfl rfl rfl (rd_move rfl rfl) rfl) (ag_cons (by first | exact ag_rd rfl rfl rfl (rd_move rfl rfl) rfl) (ag_cons (by first | exact ag_rd rfl rfl rfl (Zadd) rfl) (ag_cons (by first | exact ag_rd rfl rfl rfl (rd_move rfl rfl) rfl) (ag_cons (by first | exact ag_rd rfl rfl rfl (rd_remY (z := ((j1 : Nat) : Int)) rfl rfl rfl (by omega) (by rw [Int.tmod_eq_emod_of_nonneg (by omega)]; simpa using m1)) rfl) (ag_cons (by first | exact ag_rd rfl rfl rfl (rd_indexq (i := j1) rfl (KE (t := 107) rfl) rfl rfl rfl rB rfl) rfl) (ag_cons (by first | exact ag_rd rfl rfl rfl (ZK (KK (t := 119) rfl)) rfl) (ag_none)))))))) ?_ | refine ZG (i := 13) (ps' := [[(14, some [])]]) (by rfl) (by rfl) rfl (Zstr (KS (t := 119) rfl)) (ag_cons (by first | exact ag_rd rfl rfl rfl (rd_move rfl rfl) rfl) (ag_cons (by first | exact ag_rd rfl rfl rfl (rd_move rfl rfl) rfl) (ag_cons (by first | exact ag_rd rfl rfl rfl (Zadd) rfl) (ag_cons (by first | exact ag_rd rfl rfl rfl (rd_move rfl rfl) rfl) (ag_cons (by first | exact ag_rd rfl rfl rfl (rd_remY (z := ((j1 : Nat) : Int)) rfl rfl rfl (by omega) (by rw [Int.tmod_eq_emod_of_nonneg (by omega)]; simpa using m1)) rfl) (ag_cons (by first | exact ag_rd rfl rfl rfl (rd_indexq (i := j1) rfl (KE (t := 107) rfl) rfl rfl rfl rB rfl) rfl) (ag_cons (by first | exact ag_rd rfl rfl rfl (ZK (KK (t := 119) rfl)) rfl) (ag_none)))))))) ?_
    first | refine ZG (i := 14) (ps' := [[]]) (by rfl) (by rfl) rfl (Zsto (KS (t := 119) rfl)) (ag_none) ?_ | refine ZG (i := 14) (ps' := [[]]) (by rfl) (by rfl) rfl (Zstr (KS (t := 119) rfl)) (ag_none) ?_
    refine am_nil ?_
    rotate_right
    refine ZG (i := 11) (ps' := [[(12, some [0, 1, 2, 3, 4, 5, 6, 7, 8, 9, 10]), (13, some [4, 5, 6, 7, 8, 9, 10]), (14, some [])]]) (by rfl) (by rfl) rfl (Zall (KZ (t := 119) rfl)) (ag_cons (by first | exact ag_rd rfl rfl rfl (rd_move rfl rfl) rfl) (ag_cons (by first | exact ag_rd rfl rfl rfl (rd_move rfl rfl) rfl) (ag_cons (by first | exact ag_rd rfl rfl rfl (rd_indexq (i := i) rfl (KE (t := 107) rfl) rfl rfl rfl rA rfl) rfl) (ag_cons (by first | exact ag_rd rfl rfl rfl (ZK (KK (t := 119) rfl)) rfl) (ag_cons (by first | exact ag_rd rfl rfl rfl (rd_move rfl rfl) rfl) (ag_cons (by first | exact ag_rd rfl rfl rfl (rd_move rfl rfl) rfl) (ag_cons (by first | exact ag_rd rfl rfl rfl (Zadd) rfl) (ag_cons (by first | exact ag_rd rfl rfl rfl (rd_move rfl rfl) rfl) (ag_cons (by first | exact ag_rd rfl rfl rfl (rd_remY (z := ((j1 : Nat) : Int)) rfl rfl rfl (by omega) (by rw [Int.tmod_eq_emod_of_nonneg (by omega)]; simpa using m1)) rfl) (ag_cons (by first | exact ag_rd rfl rfl rfl (rd_indexq (i := j1) rfl (KE (t := 107) rfl) rfl rfl rfl rB rfl) rfl) (ag_cons (by first | exact ag_rd rfl rfl rfl (ZK (KK (t := 119) rfl)) rfl) (ag_none)))))))))))) ?_
    refine ZG (i := 12) (ps' := [[(13, some [4, 5, 6, 7, 8, 9, 10]), (14, some [])]]) (by rfl) (by rfl) rfl (Zall (KZ (t := 119) rfl)) (ag_cons (by first | exact ag_rd rfl rfl rfl (rd_move rfl rfl) rfl) (ag_cons (by first | exact ag_rd rfl rfl rfl (rd_move rfl rfl) rfl) (ag_cons (by first | exact ag_rd rfl rfl rfl (rd_indexq (i := i) rfl (KE (t := 107) rfl) rfl rfl rfl rA rfl) rfl) (ag_cons (by first | exact ag_rd rfl rfl rfl (ZK (KK (t := 119) rfl)) rfl) (ag_cons (by first | exact ag_rd rfl rfl rfl (rd_move rfl rfl) rfl) (ag_cons (by first | exact ag_rd rfl rfl rfl (rd_move rfl rfl) rfl) (ag_cons (by first | exact ag_rd rfl rfl rfl (Zadd) rfl) (ag_cons (by first | exact ag_rd rfl rfl rfl (rd_move rfl rfl) rfl) (ag_cons (by first | exact ag_rd rfl rfl rfl (rd_remY (z := ((j1 : Nat) : Int)) rfl rfl rfl (by omega) (by rw [Int.tmod_eq_emod_of_nonneg (by omega)]; simpa using m1)) rfl) (ag_cons (by first | exact ag_rd rfl rfl rfl (rd_indexq (i := j1) rfl (KE (t := 107) rfl) rfl rfl rfl rB rfl) rfl) (ag_cons (by first | exact ag_rd rfl rfl rfl (ZK (KK (t := 119) rfl)) rfl) (ag_none)))))))))))) ?_
    first | refine ZG (i := 13) (ps' := [[(14, some [])]]) (by rfl) (by rfl) rfl (Zsto (KS (t := 119) rfl)) (ag_cons (by first | exact ag_rd rfl rfl rfl (rd_move rfl rfl) rfl) (ag_cons (by first | exact ag_rd rfl rfl rfl (rd_move rfl rfl) rfl) (ag_cons (by first | exact ag_rd rfl rfl rfl (Zadd) rfl) (ag_cons (by first | exact ag_rd rfl rfl rfl (rd_move rfl rfl) rfl) (ag_cons (by first | exact ag_rd rfl rfl rfl (rd_remY (z := ((j1 : Nat) : Int)) rfl rfl rfl (by omega) (by rw [Int.tmod_eq_emod_of_nonneg (by omega)]; simpa using m1)) rfl) (ag_cons (by first | exact ag_rd rfl rfl rfl (rd_indexq (i := j1) rfl (KE (t := 107) rfl) rfl rfl rfl rB rfl) rfl) (ag_cons (by first | exact ag_rd rfl rfl rfl (ZK (KK (t := 119) rfl)) rfl) (ag_none)))))))) ?_ | refine ZG (i := 13) (ps' := [[(14, some [])]]) (by rfl) (by rfl) rfl (Zstr (KS (t := 119) rfl)) (ag_cons (by first | exact ag_rd rfl rfl rfl (rd_move rfl rfl) rfl) (ag_cons (by first | exact ag_rd rfl rfl rfl (rd_move rfl rfl) rfl) (ag_cons (by first | exact ag_rd rfl rfl rfl (Zadd) rfl) (ag_cons (by first | exact ag_rd rfl rfl rfl (rd_move rfl rfl) rfl) (ag_cons (by first | exact ag_rd rfl rfl rfl (rd_remY (z := ((j1 : Nat) : Int)) rfl rfl rfl (by omega) (by rw [Int.tmod_eq_emod_of_nonneg (by omega)]; simpa using m1)) rfl) (ag_cons (by first | exact ag_rd rfl rfl rfl (rd_indexq (i := j1) rfl (KE (t := 107) rfl) rfl rfl rfl rB rfl) rfl) (ag_cons (by first | exact ag_rd rfl rfl rfl (ZK (KK (t := 119) rfl)) rfl) (ag_none)))))))) ?_
    first | refine ZG (i := 14) (ps' := [[]]) (by rfl) (by rfl) rfl (Zsto (KS (t := 119) rfl)) (ag_none) ?_ | refine ZG (i := 14) (ps' := [[]]) (by rfl) (by rfl) rfl (Zstr (KS (t := 119) rfl)) (ag_none) ?_
    refine am_nil ?_
   all_goals (refine ZZ ?_)
   all_goals (first | exact wk_of [some 0, some 1] (fun _ => [(0, .c (.r v (pR r))), (3, .c (I (pR r).length)), (4, .c (I i)), (5, .p 0 0 0), (6, .p 1 0 0), (11, .c (I (pR r).length)), (12, .c (I i))]) (fun _ => [.box [.c (I A2.x), .c (I A2.y)], .box [.c (I B2.x), .c (I B2.y)]]) (by decide) (ZNL hE) ZCF ZCH (fun _ => ⟨rfl, rfl⟩) | exact wk_of [some 1, some 0] (fun _ => [(0, .c (.r v (pR r))), (3, .c (I (pR r).length)), (4, .c (I i)), (5, .p 0 0 0), (6, .p 1 0 0), (11, .c (I (pR r).length)), (12, .c (I i))]) (fun _ => [.box [.c (I A2.x), .c (I A2.y)], .box [.c (I B2.x), .c (I B2.y)]]) (by decide) (ZNL hE) ZCF ZCH (fun _ => ⟨rfl, rfl⟩))
  rintro F H ⟨rfl, rfl⟩
  refine ZZ ?_
  refine aw_cut (fun F H => F = [(0, .c (.r v (pR r))), (3, .c (I (pR r).length)), (4, .c (I i)), (5, .p 0 0 0), (6, .p 1 0 0), (11, .c (I (pR r).length)), (12, .c (I i)), (35, .c (B (fldB B2 A2 C2)))] ∧ H = [.box [.c (I A2.x), .c (I A2.y)], .box [.c (I B2.x), .c (I B2.y)]]) ?_ ?_ wk_aw
  ·refine ZZ ?_
   refine aw_regionT [(0, none), (1, none), (2, none), (3, none), (4, none), (5, none), (6, none), (7, none), (8, none), (9, some [])] hMixed (by kernel_rfl) ?_
   iterate 6 refine WX2 ?_
   refine ZT rfl (rd_remY (z := ((j2 : Nat) : Int)) rfl rfl rfl (by omega) (by rw [Int.tmod_eq_emod_of_nonneg (by omega)]; simpa using m2)) ?_
   refine ZT rfl (rd_indexq (i := j2) rfl (KE (t := 107) rfl) rfl rfl rfl rC rfl) ?_
   refine WP ?_
   refine at_ef rfl rfl (ef_call0 false (fun _ => folds_v B2 A2 C2 pB pA pC) rfl .fn rfl (by decide) (by kernel_rfl) rfl (fun _g => .cons (.aL (C0 rfl)) (.cons (.aL (C0 rfl)) (.cons (.aL (C0 rfl)) .nil))) (by simp)) ?_
   rintro _ _ ⟨_, _, _, ⟨rfl, rfl⟩, hF, hH⟩
   (refine NST hF hH ?_; clear hF hH; rintro rfl rfl)
   refine ⟨ag_none, ?_⟩
   refine WQ ?_
   all_goals (exact wk_of [some 0, some 1] (fun _ => [(0, .c (.r v (pR r))), (3, .c (I (pR r).length)), (4, .c (I i)), (5, .p 0 0 0), (6, .p 1 0 0), (11, .c (I (pR r).length)), (12, .c (I i)), (35, .c (B (fldB B2 A2 C2)))]) (fun _ => _) (by decide) (ZNL hE) ZCF ZCH (fun _ => ⟨rfl, rfl⟩))
  rintro F H ⟨rfl, rfl⟩
  refine ZZ ?_
  cases hf : fldB B2 A2 C2 with
  | true =>
   refine aw_cond_t rfl ?_
   refine WA ?_
   exact aret_1 [] _ rfl rfl rfl (by decide) (ZNK rfl) (fun _ => .nil) ⟨by rw [if_pos (sfF_true hil (h1 hf))], rfl⟩
  | false =>
   refine aw_cond_f rfl ?_
   have h3 := h2 hf
   refine ZZ ?_
   refine WA ?_
   refine aw_loopw (fun m2 F H => ∃ (k : Nat), m2 + k = r.length + 2 ∧ i + 2 ≤ k ∧ (∀ k' < k, k' < r.length → i + 2 ≤ k' → ¬ (i = 0 ∧ k' = r.length - 1) → sfP r i k' = false) ∧ F = [(0, .c (.r v (pR r))), (3, .c (I (pR r).length)), (4, .c (I i)), (5, .p 0 0 0), (6, .p 1 0 0), (7, .c (I k)), (11, .c (I (pR r).length)), (12, .c (I i))] ∧ H = [.box [.c (I A2.x), .c (I A2.y)], .box [.c (I B2.x), .c (I B2.y)]]) ?_ ?_
   ·refine wk_of [some 0, some 1] (fun _ => [(0, .c (.r v (pR r))), (3, .c (I (pR r).length)), (4, .c (I i)), (5, .p 0 0 0), (6, .p 1 0 0), (7, .c (I (i + 2 : Nat))), (11, .c (I (pR r).length)), (12, .c (I i))]) (fun _ => _) (by decide) (ZNL hE) ZCF ZCH (fun _ => ?_)
    exact ⟨r.length - i, i + 2, by omega, by omega, fun _ _ _ h => absurd h (by omega), rfl, rfl⟩
   rintro m2 F H ⟨k, hk, hik, hkn, rfl, rfl⟩
   refine ZZ ?_
   refine aw_cut (fun F H => F = [(0, .c (.r v (pR r))), (3, .c (I (pR r).length)), (4, .c (I i)), (5, .p 0 0 0), (6, .p 1 0 0), (7, .c (I k)), (11, .c (I (pR r).length)), (12, .c (I i)), (51, .c (B (decide (k < r.length ∧ ¬ (i = 0 ∧ k = r.length - 1)))))] ∧ H = [.box [.c (I A2.x), .c (I A2.y)], .box [.c (I B2.x), .c (I B2.y)]]) ?_ ?_ wk_aw
   ·by_cases hkl : k < r.length
    ·by_cases hi0 : i = 0
     ·by_cases hk1 : k = r.length - 1
      ·have ed : decide (k < r.length ∧ ¬ (i = 0 ∧ k = r.length - 1)) = false := by simp [hi0, hk1]
       rw [ed]
       refine WA ?_
       all_goals (exact wk_of [some 0, some 1] (fun _ => [(0, .c (.r v (pR r))), (3, .c (I (pR r).length)), (4, .c (I i)), (5, .p 0 0 0), (6, .p 1 0 0), (7, .c (I k)), (11, .c (I (pR r).length)), (12, .c (I i)), (51, .c (B false))]) (fun _ => _) (by decide) (ZNL hE) ZCF ZCH (fun _ => ⟨rfl, rfl⟩))
      ·have ed : decide (k < r.length ∧ ¬ (i = 0 ∧ k = r.length - 1)) = true := by simp [hkl, hk1]
       rw [ed]
       refine WA ?_
       all_goals (exact wk_of [some 0, some 1] (fun _ => [(0, .c (.r v (pR r))), (3, .c (I (pR r).length)), (4, .c (I i)), (5, .p 0 0 0), (6, .p 1 0 0), (7, .c (I k)), (11, .c (I (pR r).length)), (12, .c (I i)), (51, .c (B true))]) (fun _ => _) (by decide) (ZNL hE) ZCF ZCH (fun _ => ⟨rfl, rfl⟩))
     ·have ed : decide (k < r.length ∧ ¬ (i = 0 ∧ k = r.length - 1)) = true := by simp [hkl, hi0]
      rw [ed]
      refine WA ?_
      all_goals (exact wk_of [some 0, some 1] (fun _ => [(0, .c (.r v (pR r))), (3, .c (I (pR r).length)), (4, .c (I i)), (5, .p 0 0 0), (6, .p 1 0 0), (7, .c (I k)), (11, .c (I (pR r).length)), (12, .c (I i)), (51, .c (B true))]) (fun _ => _) (by decide) (ZNL hE) ZCF ZCH (fun _ => ⟨rfl, rfl⟩))
    ·have ed : decide (k < r.length ∧ ¬ (i = 0 ∧ k = r.length - 1)) = false := by simp [hkl]
     rw [ed]
     refine WA ?_
     all_goals (exact wk_of [some 0, some 1] (fun _ => [(0, .c (.r v (pR r))), (3, .c (I (pR r).length)), (4, .c (I i)), (5, .p 0 0 0), (6, .p 1 0 0), (7, .c (I k)), (11, .c (I (pR r).length)), (12, .c (I i)), (51, .c (B false))]) (fun _ => _) (by decide) (ZNL hE) ZCF ZCH (fun _ => ⟨rfl, rfl⟩))
   rintro F H ⟨rfl, rfl⟩
   refine ZZ ?_
   refine aw_if rfl (fun hgo => ?_) (fun hst => ?_)
   ·obtain ⟨hkl, hok⟩ := hgo
    have hj3 : (k + 1) % r.length < r.length := Nat.mod_lt _ (by omega)
    have pD := ptA_in hp hkl
    have pE := ptA_in hp hj3
    have rD := prow hkl
    have rE := prow hj3
    have hSk := hS k
    have m3 : (((k : Int) + 1) % (r.length : Int)) = ((k + 1) % r.length : Nat) := by simp
    generalize (k + 1) % r.length = j3 at *
    generalize ptA r k = D2 at *
    generalize ptA r j3 = E2 at *
    refine ZZ ?_
    refine aw_cut (fun F H => F = [(0, .c (.r v (pR r))), (3, .c (I (pR r).length)), (4, .c (I i)), (5, .p 0 0 0), (6, .p 1 0 0), (7, .c (I k)), (11, .c (I (pR r).length)), (12, .c (I i)), (67, .c (B (metB A2 B2 D2 E2)))] ∧ H = [.box [.c (I A2.x), .c (I A2.y)], .box [.c (I B2.x), .c (I B2.y)]]) ?_ ?_ wk_aw
    ·refine ZZ ?_
     refine aw_regionT [(0, none), (1, none), (2, none), (3, none), (4, none), (5, none), (6, none), (7, none), (8, none), (9, none), (10, none), (11, none), (12, none), (13, some [])] hMixed (by kernel_rfl) ?_
     iterate 4 refine WX2 ?_
     refine ZT rfl (rd_indexq (i := k) rfl (KE (t := 107) rfl) rfl rfl rfl rD rfl) ?_
     iterate 5 refine WX2 ?_
     refine ZT rfl (rd_remY (z := ((j3 : Nat) : Int)) rfl rfl rfl (by omega) (by rw [Int.tmod_eq_emod_of_nonneg (by omega)]; simpa using m3)) ?_
     refine ZT rfl (rd_indexq (i := j3) rfl (KE (t := 107) rfl) rfl rfl rfl rE rfl) ?_
     refine WP ?_
     refine at_ef rfl rfl (ef_call0 false (fun _ => meet_v A2 B2 D2 E2 pA pB pD pE) rfl .fn rfl (by decide) (by kernel_rfl) rfl (fun _g => .cons (.aL (C0 rfl)) (.cons (.aL (C0 rfl)) (.cons (.aL (C0 rfl)) (.cons (.aL (C0 rfl)) .nil)))) (by simp)) ?_
     rintro _ _ ⟨_, _, _, ⟨rfl, rfl⟩, hF, hH⟩
     (refine NST hF hH ?_; clear hF hH; rintro rfl rfl)
     refine ⟨ag_none, ?_⟩
     refine WQ ?_
     all_goals (exact wk_of [some 0, some 1] (fun _ => [(0, .c (.r v (pR r))), (3, .c (I (pR r).length)), (4, .c (I i)), (5, .p 0 0 0), (6, .p 1 0 0), (7, .c (I k)), (11, .c (I (pR r).length)), (12, .c (I i)), (67, .c (B (metB A2 B2 D2 E2)))]) (fun _ => _) (by decide) (ZNL hE) ZCF ZCH (fun _ => ⟨rfl, rfl⟩))
    rintro F H ⟨rfl, rfl⟩
    refine ZZ ?_
    cases hmt : metB A2 B2 D2 E2 with
    | true =>
     refine aw_cond_t rfl ?_
     refine WA ?_
     exact aret_1 [] _ rfl rfl rfl (by decide) (ZNK rfl) (fun _ => .nil) ⟨by rw [if_pos (sfF_true hil (sfI_met hik hkl hok (by rw [hSk, hmt])))], rfl⟩
    | false =>
     refine aw_cond_f rfl ?_
     refine ZZ ?_
     refine WA ?_
     refine wk_of [some 0, some 1] (fun _ => [(0, .c (.r v (pR r))), (3, .c (I (pR r).length)), (4, .c (I i)), (5, .p 0 0 0), (6, .p 1 0 0), (7, .c (I (k + 1 : Nat))), (11, .c (I (pR r).length)), (12, .c (I i))]) (fun _ => _) (by decide) (ZNL hE) ZCF ZCH (fun _ => ?_)
     refine ⟨m2 - 1, by omega, k + 1, by omega, by omega, fun k' hk' hkl' hik' hok' => ?_, rfl, rfl⟩
     by_cases e : k' = k
     ·subst e; rw [hSk, hmt]
     ·exact hkn k' (by omega) hkl' hik' hok'
   ·have h4 := h3 fun k' hkl' hik' hok' => hkn k' (by omega) hkl' hik' hok'
    refine ZZ ?_
    refine WA ?_
    refine wk_of [] (fun _ => [(0, .c (.r v (pR r))), (3, .c (I (pR r).length)), (11, .c (I (pR r).length)), (12, .c (I (i + 1 : Nat)))]) (fun _ => []) (by decide) (ZNL hE) ZCF (fun _ => .nil) (fun _ => ?_)
    refine ⟨m - 1, by omega, i + 1, by omega, fun i' hi' => ?_, rfl, rfl⟩
    by_cases e : i' = i
    ·subst e; exact h4
    ·exact hno i' (by omega)
 refine ZZ ?_
 refine WA ?_
 exact aret_1 [] _ rfl rfl rfl (by decide) (ZNK rfl) (fun _ => .nil) ⟨by rw [sfF_false fun i' h => hno i' (by omega)]; rfl, rfl⟩
end Go.Proofs.YtlblimbelfenaaaGreat
