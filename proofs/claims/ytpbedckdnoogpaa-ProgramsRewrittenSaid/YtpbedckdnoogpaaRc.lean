/- The reference's status after a step, by value. -/
import Derived.Test.YtpbedckdnoogpaaRb
set_option linter.unusedSimpArgs false
set_option linter.unusedVariables false
namespace Go.Proofs.Ytpbedckdnoogpaa
open Go Go.RowKit
set_option maxRecDepth 100000
structure Mach where
  x : Int
  y : Int
  z : Int
  sp : Int
  he : Int
  tl : Int
  fl : Int
  rel : Bool
abbrev Mach.row (m : Mach) : List CV := [I m.x, I m.y, I m.z, I m.sp, I m.he, I m.tl, I m.fl, B m.rel]
abbrev Mach.zero : Mach := ⟨0, 0, 0, 0, 0, 0, 0, false⟩
def relS (r : Bool) (a b : Int) : Int := if r = true then wrap64 (a + b) else b
/-- The status after a step. -/
def afterS (m : Mach) (s : Step) : Mach :=
  if s.k = 1 then { m with rel := false }
  else if s.k = 2 then { m with rel := true }
  else if s.k = 3 ∨ s.k = 4 then { m with x := relS m.rel m.x s.x, y := relS m.rel m.y s.y, fl := wrap64 (m.fl + s.f) }
  else if s.k = 5 then { m with z := relS m.rel m.z s.z }
  else if s.k = 6 then { m with sp := s.n }
  else if s.k = 8 then { m with he := s.n }
  else if s.k = 9 then { m with tl := s.n }
  else m
set_option maxHeartbeats 4000000 in
theorem qafter_a (m : Mach) (s : Step) (hs : s.ok) : ACalls Try.prog 97 [.a (m.row.map .c), .a (s.row.map .c)] [] fun u H => u = .a ((afterS m s).row.map .c) ∧ H = [] := by
  obtain ⟨mx, my, mz, msp, mhe, mtl, mfl, mrel⟩ := m
  obtain ⟨k, x, y, z, f, n⟩ := s
  obtain ⟨-, o2, o3, o4, o5, -⟩ := hs
  simp only [in64] at o2 o3 o4 o5
  refine acalls_of (N := 66) Try.func97 rfl rfl (by simp) fun E hE => ?_
  repeat with_reducible first | apply S1 | apply S2 | apply S3 | apply S4 | apply S5 | apply S6 | apply S7 | apply S8 | refine S0 rfl ?_ | apply SA | apply SB | apply SC
  refine aw_region ?_
  refine EA rfl (ef_boxn rfl rfl (by decide) rfl (by (try simp only [nm, putL, Nat.reduceAdd, cellsOf, cvOf]) <;> rfl) rfl (by (try simp only [nm, putL, Nat.reduceAdd, cellsOf, cvOf]) <;> rfl) (by (try simp only [nm, putL, Nat.reduceAdd, cellsOf, cvOf]) <;> rfl)) ?_
  refine EA rfl (ef_boxn rfl rfl (by decide) rfl (by (try simp only [nm, putL, Nat.reduceAdd, cellsOf, cvOf]) <;> rfl) rfl (by (try simp only [nm, putL, Nat.reduceAdd, cellsOf, cvOf]) <;> rfl) (by (try simp only [nm, putL, Nat.reduceAdd, cellsOf, cvOf]) <;> rfl)) ?_
  refine EA rfl (ef_allocn rfl rfl (by decide) Tz42 rfl rfl (by (try simp only [nm, putL, Nat.reduceAdd, cellsOf, cvOf]) <;> rfl) (by (try simp only [nm, putL, Nat.reduceAdd, cellsOf, cvOf]) <;> rfl)) ?_
  refine al_nil ?_
  repeat with_reducible first | apply S1 | apply S2 | apply S3 | apply S4 | apply S5 | apply S6 | apply S7 | apply S8 | refine S0 rfl ?_ | apply SA | apply SB | apply SC
  refine aw_region ?_
  refine M1 rfl ?_
  refine M1 rfl ?_
  refine M1 rfl ?_
  refine al_nil ?_
  repeat with_reducible first | apply S1 | apply S2 | apply S3 | apply S4 | apply S5 | apply S6 | apply S7 | apply S8 | refine S0 rfl ?_ | apply SA | apply SB | apply SC
  refine aw_region ?_
  refine RA rfl rfl (by decide) (rd_fx rfl Tf42_7 rfl) ?_
  refine RA rfl rfl (by decide) (rd_loadn1 rfl Tk4 rfl (by first | exact CB rfl | exact CQ | exact CA rfl (by first | assumption | (rw [Nat.zero_add]; assumption))) (by (try simp only [nm, putL, Nat.reduceAdd, cellsOf, cvOf]) <;> rfl)) ?_
  refine al_nil ?_
  repeat with_reducible first | apply S1 | apply S2 | apply S3 | apply S4 | apply S5 | apply S6 | apply S7 | apply S8 | refine S0 rfl ?_ | apply SA | apply SB | apply SC
  refine aw_cut (fun F H => ∃ bx bz by_ : Int, (bx = if mrel = true then mx else 0) ∧ (by_ = if mrel = true then my else 0) ∧ (bz = if mrel = true then mz else 0) ∧ F = [(2, .p 0 0 0), (3, .p 1 0 0), (4, .p 2 0 0), (5, .c (I bx)), (6, .c (I by_)), (7, .c (I bz))] ∧ H = [.box ((⟨mx, my, mz, msp, mhe, mtl, mfl, mrel⟩ : Mach).row.map .c), .box ((⟨k, x, y, z, f, n⟩ : Step).row.map .c), .box (Mach.zero.row.map .c)]) ?_ ?_ wk_aw
  · refine aw_cond rfl (fun h => ?_) (fun h => ?_)
    · repeat with_reducible first | apply S1 | apply S2 | apply S3 | apply S4 | apply S5 | apply S6 | apply S7 | apply S8 | refine S0 rfl ?_ | apply SA | apply SB | apply SC
      refine aw_regionT [(0, none), (1, none), (2, none), (3, none), (4, none), (5, none), (6, none), (7, none), (8, none)] hMixed (by kernel_rfl) ?_
      refine RT rfl rfl rfl (by decide) (rd_fx rfl Tf42_0 rfl) ?_
      refine RT rfl rfl rfl (by decide) (rd_loadn1 rfl Tk3 rfl (by first | exact CB rfl | exact CQ | exact CA rfl (by first | assumption | (rw [Nat.zero_add]; assumption))) (by (try simp only [nm, putL, Nat.reduceAdd, cellsOf, cvOf]) <;> rfl)) ?_
      refine RT rfl rfl rfl (by decide) (rd_fx rfl Tf42_1 rfl) ?_
      refine RT rfl rfl rfl (by decide) (rd_loadn1 rfl Tk3 rfl (by first | exact CB rfl | exact CQ | exact CA rfl (by first | assumption | (rw [Nat.zero_add]; assumption))) (by (try simp only [nm, putL, Nat.reduceAdd, cellsOf, cvOf]) <;> rfl)) ?_
      refine RT rfl rfl rfl (by decide) (rd_fx rfl Tf42_2 rfl) ?_
      refine RT rfl rfl rfl (by decide) (rd_loadn1 rfl Tk3 rfl (by first | exact CB rfl | exact CQ | exact CA rfl (by first | assumption | (rw [Nat.zero_add]; assumption))) (by (try simp only [nm, putL, Nat.reduceAdd, cellsOf, cvOf]) <;> rfl)) ?_
      refine M2 rfl rfl ?_
      refine M2 rfl rfl ?_
      refine M2 rfl rfl ?_
      refine at_nil ?_
      repeat with_reducible first | apply S1 | apply S2 | apply S3 | apply S4 | apply S5 | apply S6 | apply S7 | apply S8 | refine S0 rfl ?_ | apply SA | apply SB | apply SC
      refine wk_of [some 0, some 1, some 2] (fun _ => [(2, .p 0 0 0), (3, .p 1 0 0), (4, .p 2 0 0), (5, .c (I mx)), (6, .c (I my)), (7, .c (I mz))]) (fun _ => _) (by decide) (by rw [hE]; first | exact (fun _ hi => absurd hi (Nat.not_lt_zero _)) | exact (fun i hi => by (have hi : i < 1 := hi); (have h0 : i = 0 := (by omega)); (subst h0); rfl)) (by intro _g; (repeat first | exact W0 | apply W1 rfl | exact L0 | apply L1 | exact V1 rfl | exact V2 rfl | exact V3 rfl rfl | exact V4 | exact V5 rfl | exact V3 rfl (by first | (simp; omega) | simp) | exact V1 (by first | (simp; omega) | simp) | exact V6 rfl rfl (by first | rfl | simp) (by simp) rfl | apply V7 | apply V8 | apply V9 | refine V1 ?_ | refine V3 rfl ?_); fail_if_success focus skip) (by intro _g; (repeat first | exact K0 | apply K1 rfl | apply K2 rfl rfl | apply K2 rfl (by simp) | apply K3 | exact L0 | apply L1 | exact V1 rfl | exact V2 rfl | exact V3 rfl rfl | exact V4 | exact V5 rfl | exact V3 rfl (by first | (simp; omega) | simp) | exact V1 (by first | (simp; omega) | simp) | exact V6 rfl rfl (by first | rfl | simp) (by simp) rfl | apply V7 | apply V8 | apply V9); fail_if_success focus skip) (fun _ => ?_)
      exact ⟨_, _, _, by simp [h], by simp [h], by simp [h], rfl, rfl⟩
    · repeat with_reducible first | apply S1 | apply S2 | apply S3 | apply S4 | apply S5 | apply S6 | apply S7 | apply S8 | refine S0 rfl ?_ | apply SA | apply SB | apply SC
      refine wk_of [some 0, some 1, some 2] (fun _ => [(2, .p 0 0 0), (3, .p 1 0 0), (4, .p 2 0 0), (5, .c (I 0)), (6, .c (I 0)), (7, .c (I 0))]) (fun _ => _) (by decide) (by rw [hE]; first | exact (fun _ hi => absurd hi (Nat.not_lt_zero _)) | exact (fun i hi => by (have hi : i < 1 := hi); (have h0 : i = 0 := (by omega)); (subst h0); rfl)) (by intro _g; (repeat first | exact W0 | apply W1 rfl | exact L0 | apply L1 | exact V1 rfl | exact V2 rfl | exact V3 rfl rfl | exact V4 | exact V5 rfl | exact V3 rfl (by first | (simp; omega) | simp) | exact V1 (by first | (simp; omega) | simp) | exact V6 rfl rfl (by first | rfl | simp) (by simp) rfl | apply V7 | apply V8 | apply V9 | refine V1 ?_ | refine V3 rfl ?_); fail_if_success focus skip) (by intro _g; (repeat first | exact K0 | apply K1 rfl | apply K2 rfl rfl | apply K2 rfl (by simp) | apply K3 | exact L0 | apply L1 | exact V1 rfl | exact V2 rfl | exact V3 rfl rfl | exact V4 | exact V5 rfl | exact V3 rfl (by first | (simp; omega) | simp) | exact V1 (by first | (simp; omega) | simp) | exact V6 rfl rfl (by first | rfl | simp) (by simp) rfl | apply V7 | apply V8 | apply V9); fail_if_success focus skip) (fun _ => ?_)
      exact ⟨_, _, _, by simp [h], by simp [h], by simp [h], rfl, rfl⟩
  · rintro F H ⟨bx, bz, by_, hbx, hby, hbz, rfl, rfl⟩
    repeat' (first
      | (with_reducible refine aw_seq ?_) | (with_reducible refine aseq_n ?_) | (with_reducible refine aseq_r ?_) | (with_reducible refine ablk_n ?_) | (with_reducible refine ablk_r ?_) | (with_reducible refine ablk_e ?_) | (with_reducible refine ablk_o rfl ?_) | (with_reducible refine aseq_e ?_) | (with_reducible refine aw_skip ?_) | (with_reducible refine aw_block ?_) | (with_reducible refine aw_ret ?_) | (with_reducible refine aw_exit ?_)
      | refine aw_cond_t rfl ?_ | refine aw_cond_f rfl ?_ | refine aw_if_t rfl (by assumption) ?_ | refine aw_if_f rfl (by assumption) ?_ | refine aw_if rfl (fun _ => ?_) (fun _ => ?_) | refine aw_cond rfl (fun _ => ?_) (fun _ => ?_)
      | (refine aw_region (id := 0) ?_
         refine EA rfl (ef_boxn rfl rfl (by decide) rfl (by (try simp only [nm, putL, Nat.reduceAdd, cellsOf, cvOf]) <;> rfl) rfl (by (try simp only [nm, putL, Nat.reduceAdd, cellsOf, cvOf]) <;> rfl) (by (try simp only [nm, putL, Nat.reduceAdd, cellsOf, cvOf]) <;> rfl)) ?_
         refine EA rfl (ef_boxn rfl rfl (by decide) rfl (by (try simp only [nm, putL, Nat.reduceAdd, cellsOf, cvOf]) <;> rfl) rfl (by (try simp only [nm, putL, Nat.reduceAdd, cellsOf, cvOf]) <;> rfl) (by (try simp only [nm, putL, Nat.reduceAdd, cellsOf, cvOf]) <;> rfl)) ?_
         refine EA rfl (ef_allocn rfl rfl (by decide) Tz42 rfl rfl (by (try simp only [nm, putL, Nat.reduceAdd, cellsOf, cvOf]) <;> rfl) (by (try simp only [nm, putL, Nat.reduceAdd, cellsOf, cvOf]) <;> rfl)) ?_
         refine al_nil ?_)
      | (refine aw_region (id := 1) ?_
         refine M1 rfl ?_
         refine M1 rfl ?_
         refine M1 rfl ?_
         refine al_nil ?_)
      | (refine aw_region (id := 2) ?_
         refine RA rfl rfl (by decide) (rd_fx rfl Tf42_7 rfl) ?_
         refine RA rfl rfl (by decide) (rd_loadn1 rfl Tk4 rfl (by first | exact CB rfl | exact CQ | exact CA rfl (by first | assumption | (rw [Nat.zero_add]; assumption))) (by (try simp only [nm, putL, Nat.reduceAdd, cellsOf, cvOf]) <;> rfl)) ?_
         refine al_nil ?_)
      | (refine aw_region (id := 4) ?_
         refine RA rfl rfl (by decide) (rd_fx rfl Tf36_0 rfl) ?_
         refine RA rfl rfl (by decide) (rd_loadn1 rfl Tk3 rfl (by first | exact CB rfl | exact CQ | exact CA rfl (by first | assumption | (rw [Nat.zero_add]; assumption))) (by (try simp only [nm, putL, Nat.reduceAdd, cellsOf, cvOf]) <;> rfl)) ?_
         refine al_nil ?_)
      | (refine aw_region (id := 5) ?_
         first | refine RA rfl rfl (by decide) (rd_eql_t rfl rfl rfl (by omega)) ?_ | refine RA rfl rfl (by decide) (rd_eql_f rfl rfl rfl (by omega)) ?_ | refine RA rfl rfl (by decide) (rd_eql rfl rfl rfl) ?_
         refine M1 rfl ?_
         refine al_nil ?_)
      | (refine aw_region (id := 6) ?_
         refine RA rfl rfl (by decide) (rd_fx rfl Tf42_7 rfl) ?_
         first | refine EA rfl (ef_storen rfl rfl rfl rfl rfl Ts4 rfl (by simp) rfl (by (try simp only [nm, putL, Nat.reduceAdd, cellsOf, cvOf]) <;> rfl) (by (try simp only [nm, putL, Nat.reduceAdd, cellsOf, cvOf]) <;> rfl)) ?_ | refine EA rfl (ef_storern rfl rfl rfl rfl (by first | assumption | (rw [Nat.zero_add]; assumption)) rfl rfl Ts4 rfl (by simp) rfl (by (try simp only [nm, putL, Nat.reduceAdd, cellsOf, cvOf]) <;> rfl) rfl) ?_
         refine al_nil ?_)
      | (refine aw_region (id := 7) ?_
         first | refine RA rfl rfl (by decide) (rd_eql_t rfl rfl rfl (by omega)) ?_ | refine RA rfl rfl (by decide) (rd_eql_f rfl rfl rfl (by omega)) ?_ | refine RA rfl rfl (by decide) (rd_eql rfl rfl rfl) ?_
         refine M1 rfl ?_
         refine al_nil ?_)
      | (refine aw_region (id := 8) ?_
         refine RA rfl rfl (by decide) (rd_fx rfl Tf42_7 rfl) ?_
         first | refine EA rfl (ef_storen rfl rfl rfl rfl rfl Ts4 rfl (by simp) rfl (by (try simp only [nm, putL, Nat.reduceAdd, cellsOf, cvOf]) <;> rfl) (by (try simp only [nm, putL, Nat.reduceAdd, cellsOf, cvOf]) <;> rfl)) ?_ | refine EA rfl (ef_storern rfl rfl rfl rfl (by first | assumption | (rw [Nat.zero_add]; assumption)) rfl rfl Ts4 rfl (by simp) rfl (by (try simp only [nm, putL, Nat.reduceAdd, cellsOf, cvOf]) <;> rfl) rfl) ?_
         refine al_nil ?_)
      | (refine aw_region (id := 9) ?_
         first | refine RA rfl rfl (by decide) (rd_eql_t rfl rfl rfl (by omega)) ?_ | refine RA rfl rfl (by decide) (rd_eql_f rfl rfl rfl (by omega)) ?_ | refine RA rfl rfl (by decide) (rd_eql rfl rfl rfl) ?_
         refine M1 rfl ?_
         refine al_nil ?_)
      | (refine aw_region (id := 10) ?_
         first | refine RA rfl rfl (by decide) (rd_eql_t rfl rfl rfl (by omega)) ?_ | refine RA rfl rfl (by decide) (rd_eql_f rfl rfl rfl (by omega)) ?_ | refine RA rfl rfl (by decide) (rd_eql rfl rfl rfl) ?_
         refine M1 rfl ?_
         refine al_nil ?_)
      | (refine aw_regionT (id := 11) [(0, none), (1, none), (2, none), (3, none), (4, none), (5, none), (6, none), (7, none), (8, none), (9, none), (10, none), (11, none), (12, none), (13, none), (14, some [4, 5, 6, 7, 10, 11, 12]), (15, none), (16, some [10, 11, 12]), (17, none), (18, some [])] hMixed (by kernel_rfl) ?_
         refine M2 rfl rfl ?_
         refine RT rfl rfl rfl (by decide) (rd_fx rfl Tf36_1 rfl) ?_
         refine RT rfl rfl rfl (by decide) (rd_loadn1 rfl Tk3 rfl (by first | exact CB rfl | exact CQ | exact CA rfl (by first | assumption | (rw [Nat.zero_add]; assumption))) (by (try simp only [nm, putL, Nat.reduceAdd, cellsOf, cvOf]) <;> rfl)) ?_
         first | refine RT rfl rfl rfl (by decide) (rd_addn rfl rfl rfl (by omega)) ?_ | refine RT rfl rfl rfl (by decide) (rd_add rfl rfl rfl) ?_
         refine M2 rfl rfl ?_
         refine RT rfl rfl rfl (by decide) (rd_fx rfl Tf36_2 rfl) ?_
         refine RT rfl rfl rfl (by decide) (rd_loadn1 rfl Tk3 rfl (by first | exact CB rfl | exact CQ | exact CA rfl (by first | assumption | (rw [Nat.zero_add]; assumption))) (by (try simp only [nm, putL, Nat.reduceAdd, cellsOf, cvOf]) <;> rfl)) ?_
         first | refine RT rfl rfl rfl (by decide) (rd_addn rfl rfl rfl (by omega)) ?_ | refine RT rfl rfl rfl (by decide) (rd_add rfl rfl rfl) ?_
         refine RT rfl rfl rfl (by decide) (rd_fx rfl Tf42_6 rfl) ?_
         refine RT rfl rfl rfl (by decide) (rd_loadn1 rfl Tk3 rfl (by first | exact CB rfl | exact CQ | exact CA rfl (by first | assumption | (rw [Nat.zero_add]; assumption))) (by (try simp only [nm, putL, Nat.reduceAdd, cellsOf, cvOf]) <;> rfl)) ?_
         refine RT rfl rfl rfl (by decide) (rd_fx rfl Tf36_4 rfl) ?_
         refine RT rfl rfl rfl (by decide) (rd_loadn1 rfl Tk3 rfl (by first | exact CB rfl | exact CQ | exact CA rfl (by first | assumption | (rw [Nat.zero_add]; assumption))) (by (try simp only [nm, putL, Nat.reduceAdd, cellsOf, cvOf]) <;> rfl)) ?_
         first | refine RT rfl rfl rfl (by decide) (rd_addn rfl rfl rfl (by omega)) ?_ | refine RT rfl rfl rfl (by decide) (rd_add rfl rfl rfl) ?_
         refine RT rfl rfl rfl (by decide) (rd_fx rfl Tf42_0 rfl) ?_
         first | refine at_ef2 rfl rfl (ef_storen rfl rfl rfl rfl rfl Ts3 rfl (by simp) rfl (by (try simp only [nm, putL, Nat.reduceAdd, cellsOf, cvOf]) <;> rfl) (by (try simp only [nm, putL, Nat.reduceAdd, cellsOf, cvOf]) <;> rfl)) (ag_cons (by first | exact ag_rd rfl rfl rfl (rd_move rfl rfl) rfl) (ag_cons (by first | exact ag_rd rfl rfl rfl (rd_fx rfl Tf36_2 rfl) rfl) (ag_cons (by first | exact ag_rd rfl rfl rfl (rd_loadn1 rfl Tk3 rfl (by first | exact CB rfl | exact CQ | exact CA rfl (by first | assumption | (rw [Nat.zero_add]; assumption))) (by (try simp only [nm, putL, Nat.reduceAdd, cellsOf, cvOf]) <;> rfl)) rfl) (ag_cons (by first | exact ag_rd rfl rfl rfl (rd_addn rfl rfl rfl (by omega)) rfl | exact ag_rd rfl rfl rfl (rd_add rfl rfl rfl) rfl) (ag_cons (by first | exact ag_rd rfl rfl rfl (rd_fx rfl Tf36_4 rfl) rfl) (ag_cons (by first | exact ag_rd rfl rfl rfl (rd_loadn1 rfl Tk3 rfl (by first | exact CB rfl | exact CQ | exact CA rfl (by first | assumption | (rw [Nat.zero_add]; assumption))) (by (try simp only [nm, putL, Nat.reduceAdd, cellsOf, cvOf]) <;> rfl)) rfl) (ag_cons (by first | exact ag_rd rfl rfl rfl (rd_addn rfl rfl rfl (by omega)) rfl | exact ag_rd rfl rfl rfl (rd_add rfl rfl rfl) rfl) (ag_none)))))))) ?_ | refine at_ef2 rfl rfl (ef_storern rfl rfl rfl rfl (by first | assumption | (rw [Nat.zero_add]; assumption)) rfl rfl Ts3 rfl (by simp) rfl (by (try simp only [nm, putL, Nat.reduceAdd, cellsOf, cvOf]) <;> rfl) rfl) (ag_cons (by first | exact ag_rd rfl rfl rfl (rd_move rfl rfl) rfl) (ag_cons (by first | exact ag_rd rfl rfl rfl (rd_fx rfl Tf36_2 rfl) rfl) (ag_cons (by first | exact ag_rd rfl rfl rfl (rd_loadn1 rfl Tk3 rfl (by first | exact CB rfl | exact CQ | exact CA rfl (by first | assumption | (rw [Nat.zero_add]; assumption))) (by (try simp only [nm, putL, Nat.reduceAdd, cellsOf, cvOf]) <;> rfl)) rfl) (ag_cons (by first | exact ag_rd rfl rfl rfl (rd_addn rfl rfl rfl (by omega)) rfl | exact ag_rd rfl rfl rfl (rd_add rfl rfl rfl) rfl) (ag_cons (by first | exact ag_rd rfl rfl rfl (rd_fx rfl Tf36_4 rfl) rfl) (ag_cons (by first | exact ag_rd rfl rfl rfl (rd_loadn1 rfl Tk3 rfl (by first | exact CB rfl | exact CQ | exact CA rfl (by first | assumption | (rw [Nat.zero_add]; assumption))) (by (try simp only [nm, putL, Nat.reduceAdd, cellsOf, cvOf]) <;> rfl)) rfl) (ag_cons (by first | exact ag_rd rfl rfl rfl (rd_addn rfl rfl rfl (by omega)) rfl | exact ag_rd rfl rfl rfl (rd_add rfl rfl rfl) rfl) (ag_none)))))))) ?_
         refine RT rfl rfl rfl (by decide) (rd_fx rfl Tf42_1 rfl) ?_
         first | refine at_ef2 rfl rfl (ef_storen rfl rfl rfl rfl rfl Ts3 rfl (by simp) rfl (by (try simp only [nm, putL, Nat.reduceAdd, cellsOf, cvOf]) <;> rfl) (by (try simp only [nm, putL, Nat.reduceAdd, cellsOf, cvOf]) <;> rfl)) (ag_cons (by first | exact ag_rd rfl rfl rfl (rd_fx rfl Tf36_4 rfl) rfl) (ag_cons (by first | exact ag_rd rfl rfl rfl (rd_loadn1 rfl Tk3 rfl (by first | exact CB rfl | exact CQ | exact CA rfl (by first | assumption | (rw [Nat.zero_add]; assumption))) (by (try simp only [nm, putL, Nat.reduceAdd, cellsOf, cvOf]) <;> rfl)) rfl) (ag_cons (by first | exact ag_rd rfl rfl rfl (rd_addn rfl rfl rfl (by omega)) rfl | exact ag_rd rfl rfl rfl (rd_add rfl rfl rfl) rfl) (ag_none)))) ?_ | refine at_ef2 rfl rfl (ef_storern rfl rfl rfl rfl (by first | assumption | (rw [Nat.zero_add]; assumption)) rfl rfl Ts3 rfl (by simp) rfl (by (try simp only [nm, putL, Nat.reduceAdd, cellsOf, cvOf]) <;> rfl) rfl) (ag_cons (by first | exact ag_rd rfl rfl rfl (rd_fx rfl Tf36_4 rfl) rfl) (ag_cons (by first | exact ag_rd rfl rfl rfl (rd_loadn1 rfl Tk3 rfl (by first | exact CB rfl | exact CQ | exact CA rfl (by first | assumption | (rw [Nat.zero_add]; assumption))) (by (try simp only [nm, putL, Nat.reduceAdd, cellsOf, cvOf]) <;> rfl)) rfl) (ag_cons (by first | exact ag_rd rfl rfl rfl (rd_addn rfl rfl rfl (by omega)) rfl | exact ag_rd rfl rfl rfl (rd_add rfl rfl rfl) rfl) (ag_none)))) ?_
         refine RT rfl rfl rfl (by decide) (rd_fx rfl Tf42_6 rfl) ?_
         first | refine at_ef2 rfl rfl (ef_storen rfl rfl rfl rfl rfl Ts3 rfl (by simp) rfl (by (try simp only [nm, putL, Nat.reduceAdd, cellsOf, cvOf]) <;> rfl) (by (try simp only [nm, putL, Nat.reduceAdd, cellsOf, cvOf]) <;> rfl)) (ag_none) ?_ | refine at_ef2 rfl rfl (ef_storern rfl rfl rfl rfl (by first | assumption | (rw [Nat.zero_add]; assumption)) rfl rfl Ts3 rfl (by simp) rfl (by (try simp only [nm, putL, Nat.reduceAdd, cellsOf, cvOf]) <;> rfl) rfl) (ag_none) ?_
         refine at_nil ?_)
      | (refine aw_region (id := 12) ?_
         first | refine RA rfl rfl (by decide) (rd_eql_t rfl rfl rfl (by omega)) ?_ | refine RA rfl rfl (by decide) (rd_eql_f rfl rfl rfl (by omega)) ?_ | refine RA rfl rfl (by decide) (rd_eql rfl rfl rfl) ?_
         refine M1 rfl ?_
         refine al_nil ?_)
      | (refine aw_region (id := 13) ?_
         refine M1 rfl ?_
         refine RA rfl rfl (by decide) (rd_fx rfl Tf36_3 rfl) ?_
         refine RA rfl rfl (by decide) (rd_loadn1 rfl Tk3 rfl (by first | exact CB rfl | exact CQ | exact CA rfl (by first | assumption | (rw [Nat.zero_add]; assumption))) (by (try simp only [nm, putL, Nat.reduceAdd, cellsOf, cvOf]) <;> rfl)) ?_
         first | refine RA rfl rfl (by decide) (rd_addn rfl rfl rfl (by omega)) ?_ | refine RA rfl rfl (by decide) (rd_add rfl rfl rfl) ?_
         refine RA rfl rfl (by decide) (rd_fx rfl Tf42_2 rfl) ?_
         first | refine EA rfl (ef_storen rfl rfl rfl rfl rfl Ts3 rfl (by simp) rfl (by (try simp only [nm, putL, Nat.reduceAdd, cellsOf, cvOf]) <;> rfl) (by (try simp only [nm, putL, Nat.reduceAdd, cellsOf, cvOf]) <;> rfl)) ?_ | refine EA rfl (ef_storern rfl rfl rfl rfl (by first | assumption | (rw [Nat.zero_add]; assumption)) rfl rfl Ts3 rfl (by simp) rfl (by (try simp only [nm, putL, Nat.reduceAdd, cellsOf, cvOf]) <;> rfl) rfl) ?_
         refine al_nil ?_)
      | (refine aw_region (id := 14) ?_
         first | refine RA rfl rfl (by decide) (rd_eql_t rfl rfl rfl (by omega)) ?_ | refine RA rfl rfl (by decide) (rd_eql_f rfl rfl rfl (by omega)) ?_ | refine RA rfl rfl (by decide) (rd_eql rfl rfl rfl) ?_
         refine M1 rfl ?_
         refine al_nil ?_)
      | (refine aw_region (id := 15) ?_
         refine RA rfl rfl (by decide) (rd_fx rfl Tf36_5 rfl) ?_
         refine RA rfl rfl (by decide) (rd_loadn1 rfl Tk3 rfl (by first | exact CB rfl | exact CQ | exact CA rfl (by first | assumption | (rw [Nat.zero_add]; assumption))) (by (try simp only [nm, putL, Nat.reduceAdd, cellsOf, cvOf]) <;> rfl)) ?_
         refine RA rfl rfl (by decide) (rd_fx rfl Tf42_3 rfl) ?_
         first | refine EA rfl (ef_storen rfl rfl rfl rfl rfl Ts3 rfl (by simp) rfl (by (try simp only [nm, putL, Nat.reduceAdd, cellsOf, cvOf]) <;> rfl) (by (try simp only [nm, putL, Nat.reduceAdd, cellsOf, cvOf]) <;> rfl)) ?_ | refine EA rfl (ef_storern rfl rfl rfl rfl (by first | assumption | (rw [Nat.zero_add]; assumption)) rfl rfl Ts3 rfl (by simp) rfl (by (try simp only [nm, putL, Nat.reduceAdd, cellsOf, cvOf]) <;> rfl) rfl) ?_
         refine al_nil ?_)
      | (refine aw_region (id := 16) ?_
         first | refine RA rfl rfl (by decide) (rd_eql_t rfl rfl rfl (by omega)) ?_ | refine RA rfl rfl (by decide) (rd_eql_f rfl rfl rfl (by omega)) ?_ | refine RA rfl rfl (by decide) (rd_eql rfl rfl rfl) ?_
         refine M1 rfl ?_
         refine al_nil ?_)
      | (refine aw_region (id := 17) ?_
         refine RA rfl rfl (by decide) (rd_fx rfl Tf36_5 rfl) ?_
         refine RA rfl rfl (by decide) (rd_loadn1 rfl Tk3 rfl (by first | exact CB rfl | exact CQ | exact CA rfl (by first | assumption | (rw [Nat.zero_add]; assumption))) (by (try simp only [nm, putL, Nat.reduceAdd, cellsOf, cvOf]) <;> rfl)) ?_
         refine RA rfl rfl (by decide) (rd_fx rfl Tf42_4 rfl) ?_
         first | refine EA rfl (ef_storen rfl rfl rfl rfl rfl Ts3 rfl (by simp) rfl (by (try simp only [nm, putL, Nat.reduceAdd, cellsOf, cvOf]) <;> rfl) (by (try simp only [nm, putL, Nat.reduceAdd, cellsOf, cvOf]) <;> rfl)) ?_ | refine EA rfl (ef_storern rfl rfl rfl rfl (by first | assumption | (rw [Nat.zero_add]; assumption)) rfl rfl Ts3 rfl (by simp) rfl (by (try simp only [nm, putL, Nat.reduceAdd, cellsOf, cvOf]) <;> rfl) rfl) ?_
         refine al_nil ?_)
      | (refine aw_region (id := 18) ?_
         first | refine RA rfl rfl (by decide) (rd_eql_t rfl rfl rfl (by omega)) ?_ | refine RA rfl rfl (by decide) (rd_eql_f rfl rfl rfl (by omega)) ?_ | refine RA rfl rfl (by decide) (rd_eql rfl rfl rfl) ?_
         refine M1 rfl ?_
         refine al_nil ?_)
      | (refine aw_region (id := 19) ?_
         refine RA rfl rfl (by decide) (rd_fx rfl Tf36_5 rfl) ?_
         refine RA rfl rfl (by decide) (rd_loadn1 rfl Tk3 rfl (by first | exact CB rfl | exact CQ | exact CA rfl (by first | assumption | (rw [Nat.zero_add]; assumption))) (by (try simp only [nm, putL, Nat.reduceAdd, cellsOf, cvOf]) <;> rfl)) ?_
         refine RA rfl rfl (by decide) (rd_fx rfl Tf42_5 rfl) ?_
         first | refine EA rfl (ef_storen rfl rfl rfl rfl rfl Ts3 rfl (by simp) rfl (by (try simp only [nm, putL, Nat.reduceAdd, cellsOf, cvOf]) <;> rfl) (by (try simp only [nm, putL, Nat.reduceAdd, cellsOf, cvOf]) <;> rfl)) ?_ | refine EA rfl (ef_storern rfl rfl rfl rfl (by first | assumption | (rw [Nat.zero_add]; assumption)) rfl rfl Ts3 rfl (by simp) rfl (by (try simp only [nm, putL, Nat.reduceAdd, cellsOf, cvOf]) <;> rfl) rfl) ?_
         refine al_nil ?_)
      | (refine aw_region (id := 20) ?_
         refine RA rfl rfl (by decide) (rd_loadn rfl Tk42 rfl (by first | exact CB rfl | exact CQ | exact CA rfl (by first | assumption | (rw [Nat.zero_add]; assumption))) (by (try simp only [nm, putL, Nat.reduceAdd, cellsOf, cvOf]) <;> rfl) (by simp)) ?_
         first | refine EA rfl (ef_storen rfl rfl rfl rfl rfl Ts42 rfl (by simp) rfl (by (try simp only [nm, putL, Nat.reduceAdd, cellsOf, cvOf]) <;> rfl) (by (try simp only [nm, putL, Nat.reduceAdd, cellsOf, cvOf]) <;> rfl)) ?_ | refine EA rfl (ef_storern rfl rfl rfl rfl (by first | assumption | (rw [Nat.zero_add]; assumption)) rfl rfl Ts42 rfl (by simp) rfl (by (try simp only [nm, putL, Nat.reduceAdd, cellsOf, cvOf]) <;> rfl) rfl) ?_
         refine al_nil ?_))
    all_goals (refine aret_a [] _ rfl Tk42 rfl (Cells.box rfl) (by simp) (by (try simp only [nm, putL, Nat.reduceAdd, cellsOf, cvOf]) <;> rfl) (by decide) (fun _ hi => absurd hi (Nat.not_lt_zero _)) (fun _ => C0 rfl) (fun _ => .nil) ⟨?_, rfl⟩)
    all_goals (clear hE; subst hbx hby hbz)
    all_goals first
      | (exfalso; omega)
      | (have w1 := IntWalk.wrap64_in x o2; have w2 := IntWalk.wrap64_in y o3; have w3 := IntWalk.wrap64_in z o4; cases mrel <;> simp [afterS, relS, *])
end Go.Proofs.Ytpbedckdnoogpaa
