/- Relative, RelativeOf and JoinedOf, by value. -/
import Derived.Test.YtpbedckdnoogpaaOf
set_option linter.unusedSimpArgs false
set_option linter.unusedVariables false
namespace Go.Proofs.Ytpbedckdnoogpaa
open Go Go.RowKit
set_option maxRecDepth 100000
def relStep (was is : Mach) (s : Step) : Step :=
  if s.k = 3 ∨ s.k = 4 then { s with x := wrap64 (is.x - was.x), y := wrap64 (is.y - was.y) } else if s.k = 5 then { s with z := wrap64 (is.z - was.z) } else s
def relE (was is : Mach) (s : Step) : List Step := if s.k = 1 ∨ s.k = 2 then [] else [relStep was is s]
def relFrom : Mach → List Step → List Step
  | _, [] => []
  | m, s :: l => relE m (afterS m s) s ++ relFrom (afterS m s) l
theorem relFrom_len : ∀ (l : List Step) (m : Mach), (relFrom m l).length ≤ l.length
  | [], _ => Nat.le_refl _
  | s :: l, m => by
    have := relFrom_len l (afterS m s)
    unfold relFrom relE
    split <;> simp <;> omega
def headR (r : List Step) : List Step := if r = [] then [] else ⟨2, 0, 0, 0, 0, 0⟩ :: r
def relL (l : List Step) : List Step := headR (relFrom Mach.zero l)
theorem headR_len (r : List Step) : (headR r).length ≤ r.length + 1 := by unfold headR; split <;> simp
/-- The document's way: over the absolute form. -/
def relA : Mach → List Step → List Step
  | _, [] => []
  | m, s :: l => relStep m (afterS m s) s :: relA (afterS m s) l
theorem relA_len : ∀ (l : List Step) (m : Mach), (relA m l).length = l.length
  | [], _ => rfl
  | s :: l, m => by simp [relA, relA_len l]
structure SamePlace (m M : Mach) : Prop where
  x : m.x = M.x
  y : m.y = M.y
  z : m.z = M.z
  r : m.rel = false
theorem after_abs {m M : Mach} {s : Step} (h : SamePlace m M) (h1 : ¬ s.k = 1) (h2 : ¬ s.k = 2) : SamePlace (afterS m (absStep (afterS M s) s)) (afterS M s) ∧ relStep m (afterS m (absStep (afterS M s) s)) (absStep (afterS M s) s) = relStep M (afterS M s) s := by
  obtain ⟨a1, a2, a3, a4⟩ := h
  obtain ⟨k, x, y, z, f, n⟩ := s
  obtain ⟨mx, my, mz, msp, mhe, mtl, mfl, mr⟩ := m
  obtain ⟨Mx, My, Mz, Msp, Mhe, Mtl, Mfl, Mr⟩ := M
  simp only at h1 h2 a1 a2 a3 a4
  subst a1; subst a2; subst a3; subst a4
  by_cases h34 : k = 3 ∨ k = 4
  · have h5 : ¬ k = 5 := by omega
    simp [absStep, afterS, relStep, relS, h1, h2, h34]
    exact ⟨rfl, rfl, rfl, rfl⟩
  · by_cases h5 : k = 5
    · simp [absStep, afterS, relStep, relS, h5]
      exact ⟨rfl, rfl, rfl, rfl⟩
    · by_cases h6 : k = 6
      · simp [absStep, afterS, relStep, relS, h6]; exact ⟨rfl, rfl, rfl, rfl⟩
      by_cases h8 : k = 8
      · simp [absStep, afterS, relStep, relS, h8]; exact ⟨rfl, rfl, rfl, rfl⟩
      by_cases h9 : k = 9
      · simp [absStep, afterS, relStep, relS, h9]; exact ⟨rfl, rfl, rfl, rfl⟩
      · simp [absStep, afterS, relStep, relS, h1, h2, h34, h5, h6, h8, h9]; exact ⟨rfl, rfl, rfl, rfl⟩
theorem after_mode {m M : Mach} {s : Step} (h : SamePlace m M) (h12 : s.k = 1 ∨ s.k = 2) : SamePlace m (afterS M s) := by
  obtain ⟨a1, a2, a3, a4⟩ := h
  unfold afterS
  rcases h12 with h | h
  · rw [if_pos h]; exact ⟨a1, a2, a3, a4⟩
  · rw [if_neg (by omega), if_pos h]; exact ⟨a1, a2, a3, a4⟩
theorem rel_eq : ∀ (l : List Step) (m M : Mach), SamePlace m M → relFrom M l = relA m (absFrom M l)
  | [], _, _, _ => rfl
  | s :: l, m, M, h => by
    unfold relFrom relE absFrom
    by_cases h12 : s.k = 1 ∨ s.k = 2
    · rw [if_pos h12, if_pos h12, List.nil_append]
      exact rel_eq l m _ (after_mode h h12)
    · rw [if_neg h12, if_neg h12, relA]
      obtain ⟨g1, g2⟩ := after_abs h (s := s) (by omega) (by omega)
      rw [g2, rel_eq l _ _ g1]; rfl
theorem rel_abs (l : List Step) : relFrom Mach.zero l = relA Mach.zero (absS l) := rel_eq l _ _ ⟨rfl, rfl, rfl, rfl⟩
theorem relative1_a (k : Nat) (was is : Mach) (o : List Step) (c : Nat) (l : List Step) (v : Value) (s : Step) (hs : l[k]? = some s) (ho : o.length ≤ 1000000) :
    ACalls Try.prog 139 [.c (I k), .a (was.row.map .c), .a (is.row.map .c), .p 0 0 0, .p 1 0 0] (gath l v c o) fun u H => ∃ c' o', u = .t [] ∧ o' = o ++ relE was is s ∧ H = gath l v c' o' := by
  have hlk : k < l.length := (List.getElem?_eq_some_iff.1 hs).1
  have e1 : (l.map Step.row).length = l.length := by simp
  have hrow : (l.map Step.row)[k]? = some s.row := by rw [List.getElem?_map, hs]; rfl
  refine acalls_of (N := 52) Try.func139 rfl rfl (by simp) fun E hE => ?_
  repeat with_reducible first | apply S1 | apply S2 | apply S3 | apply S4 | apply S5 | apply S6 | apply S7 | apply S8 | refine S0 rfl ?_ | apply SA | apply SB | apply SC
  refine aw_region ?_
  refine EA rfl (ef_boxn rfl rfl (by decide) rfl (by (try simp only [nm, putL, Nat.reduceAdd, cellsOf, cvOf]) <;> rfl) rfl (by (try simp only [nm, putL, Nat.reduceAdd, cellsOf, cvOf]) <;> rfl) (by (try simp only [nm, putL, Nat.reduceAdd, cellsOf, cvOf]) <;> rfl)) ?_
  refine EA rfl (ef_boxn rfl rfl (by decide) rfl (by (try simp only [nm, putL, Nat.reduceAdd, cellsOf, cvOf]) <;> rfl) rfl (by (try simp only [nm, putL, Nat.reduceAdd, cellsOf, cvOf]) <;> rfl) (by (try simp only [nm, putL, Nat.reduceAdd, cellsOf, cvOf]) <;> rfl)) ?_
  refine al_nil ?_
  repeat with_reducible first | apply S1 | apply S2 | apply S3 | apply S4 | apply S5 | apply S6 | apply S7 | apply S8 | refine S0 rfl ?_ | apply SA | apply SB | apply SC
  refine aw_region ?_
  refine RA rfl rfl (by decide) (rd_loadn1 rfl Tk26 rfl (by first | exact CB rfl | exact CQ | exact CA rfl (by first | assumption | (rw [Nat.zero_add]; assumption))) (by (try simp only [nm, putL, Nat.reduceAdd, cellsOf, cvOf]) <;> rfl)) ?_
  refine M1 rfl ?_
  first | refine RA rfl rfl (by decide) (rd_index rfl Te26 rfl rfl rfl (by first | rfl | omega) (by omega)) ?_ | refine RA rfl rfl (by decide) (rd_indexq rfl Te26 rfl rfl (by first | rfl | omega) (by assumption) rfl) ?_
  refine RA rfl rfl (by decide) (rd_loadn rfl Tk36 rfl (by first | exact CB rfl | exact CQ | exact CA rfl (by first | assumption | (rw [Nat.zero_add]; assumption))) (by (try simp only [nm, putL, Nat.reduceAdd, cellsOf, cvOf]) <;> rfl) (by simp)) ?_
  refine EA rfl (ef_allocn rfl rfl (by decide) Tz36 rfl rfl (by (try simp only [nm, putL, Nat.reduceAdd, cellsOf, cvOf]) <;> rfl) (by (try simp only [nm, putL, Nat.reduceAdd, cellsOf, cvOf]) <;> rfl)) ?_
  first | refine EA rfl (ef_storen rfl rfl rfl rfl rfl Ts36 rfl (by simp) rfl (by (try simp only [nm, putL, Nat.reduceAdd, cellsOf, cvOf]) <;> rfl) (by (try simp only [nm, putL, Nat.reduceAdd, cellsOf, cvOf]) <;> rfl)) ?_ | refine EA rfl (ef_storern rfl rfl rfl rfl (by first | assumption | (rw [Nat.zero_add]; assumption)) rfl rfl Ts36 rfl (by simp) rfl (by (try simp only [nm, putL, Nat.reduceAdd, cellsOf, cvOf]) <;> rfl) rfl) ?_
  refine al_nil ?_
  repeat with_reducible first | apply S1 | apply S2 | apply S3 | apply S4 | apply S5 | apply S6 | apply S7 | apply S8 | refine S0 rfl ?_ | apply SA | apply SB | apply SC
  by_cases h1 : s.k = 1
  · repeat with_reducible first | apply S1 | apply S2 | apply S3 | apply S4 | apply S5 | apply S6 | apply S7 | apply S8 | refine S0 rfl ?_ | apply SA | apply SB | apply SC
    refine aw_region ?_
    refine RA rfl rfl (by decide) (rd_fx rfl Tf36_0 rfl) ?_
    refine RA rfl rfl (by decide) (rd_loadn1 rfl Tk3 rfl (by first | exact CB rfl | exact CQ | exact CA rfl (by first | assumption | (rw [Nat.zero_add]; assumption))) (by (try simp only [nm, putL, Nat.reduceAdd, cellsOf, cvOf]) <;> rfl)) ?_
    first | refine RA rfl rfl (by decide) (rd_eql_t rfl rfl rfl (by omega)) ?_ | refine RA rfl rfl (by decide) (rd_eql_f rfl rfl rfl (by omega)) ?_ | refine RA rfl rfl (by decide) (rd_eql rfl rfl rfl) ?_
    refine M1 rfl ?_
    first | (refine G1 rfl ?_; (refine RA rfl rfl (by decide) (rd_fx rfl Tf36_0 rfl) ?_)) | refine G2 rfl rfl (by decide) ?_
    first | (refine G1 rfl ?_; (refine RA rfl rfl (by decide) (rd_loadn1 rfl Tk3 rfl (by first | exact CB rfl | exact CQ | exact CA rfl (by first | assumption | (rw [Nat.zero_add]; assumption))) (by (try simp only [nm, putL, Nat.reduceAdd, cellsOf, cvOf]) <;> rfl)) ?_)) | refine G2 rfl rfl (by decide) ?_
    first | (refine G1 rfl ?_; (first | refine RA rfl rfl (by decide) (rd_eql_t rfl rfl rfl (by omega)) ?_ | refine RA rfl rfl (by decide) (rd_eql_f rfl rfl rfl (by omega)) ?_ | refine RA rfl rfl (by decide) (rd_eql rfl rfl rfl) ?_)) | refine G2 rfl rfl (by decide) ?_
    refine M1 rfl ?_
    refine M1 rfl ?_
    refine al_nil ?_
    repeat with_reducible first | apply S1 | apply S2 | apply S3 | apply S4 | apply S5 | apply S6 | apply S7 | apply S8 | refine S0 rfl ?_ | apply SA | apply SB | apply SC
    refine aw_cond_t rfl ?_
    repeat with_reducible first | apply S1 | apply S2 | apply S3 | apply S4 | apply S5 | apply S6 | apply S7 | apply S8 | refine S0 rfl ?_ | apply SA | apply SB | apply SC
    exact aret_0 [some 0, some 1, some 2] (fun _ => [.box [.c (prog_r v l)], .box [.o 2 0 o.length c], .arr 36 6 c (o.map Step.row)]) (by first | exact .inl rfl | exact .inr rfl) rfl (by decide) (fun i hi => by (have hi : i < 3 := hi); (obtain rfl | rfl | rfl : i = 0 ∨ i = 1 ∨ i = 2 := (by omega)) <;> rfl) (by intro _g; (repeat first | exact K0 | apply K1 rfl | apply K2 rfl rfl | apply K2 rfl (by simp) | apply K3 | exact L0 | apply L1 | exact V1 rfl | exact V2 rfl | exact V3 rfl rfl | exact V4 | exact V5 rfl | exact V3 rfl (by first | (simp; omega) | simp) | exact V1 (by first | (simp; omega) | simp) | exact V6 rfl rfl (by first | rfl | simp) (by simp) rfl | apply V7 | apply V8 | apply V9); fail_if_success focus skip) (fun _ => ⟨c, o, rfl, by rw [relE, if_pos (by omega), List.append_nil], rfl⟩)
  by_cases h2 : s.k = 2
  · repeat with_reducible first | apply S1 | apply S2 | apply S3 | apply S4 | apply S5 | apply S6 | apply S7 | apply S8 | refine S0 rfl ?_ | apply SA | apply SB | apply SC
    refine aw_region ?_
    refine RA rfl rfl (by decide) (rd_fx rfl Tf36_0 rfl) ?_
    refine RA rfl rfl (by decide) (rd_loadn1 rfl Tk3 rfl (by first | exact CB rfl | exact CQ | exact CA rfl (by first | assumption | (rw [Nat.zero_add]; assumption))) (by (try simp only [nm, putL, Nat.reduceAdd, cellsOf, cvOf]) <;> rfl)) ?_
    first | refine RA rfl rfl (by decide) (rd_eql_t rfl rfl rfl (by omega)) ?_ | refine RA rfl rfl (by decide) (rd_eql_f rfl rfl rfl (by omega)) ?_ | refine RA rfl rfl (by decide) (rd_eql rfl rfl rfl) ?_
    refine M1 rfl ?_
    first | (refine G1 rfl ?_; (refine RA rfl rfl (by decide) (rd_fx rfl Tf36_0 rfl) ?_)) | refine G2 rfl rfl (by decide) ?_
    first | (refine G1 rfl ?_; (refine RA rfl rfl (by decide) (rd_loadn1 rfl Tk3 rfl (by first | exact CB rfl | exact CQ | exact CA rfl (by first | assumption | (rw [Nat.zero_add]; assumption))) (by (try simp only [nm, putL, Nat.reduceAdd, cellsOf, cvOf]) <;> rfl)) ?_)) | refine G2 rfl rfl (by decide) ?_
    first | (refine G1 rfl ?_; (first | refine RA rfl rfl (by decide) (rd_eql_t rfl rfl rfl (by omega)) ?_ | refine RA rfl rfl (by decide) (rd_eql_f rfl rfl rfl (by omega)) ?_ | refine RA rfl rfl (by decide) (rd_eql rfl rfl rfl) ?_)) | refine G2 rfl rfl (by decide) ?_
    refine M1 rfl ?_
    refine M1 rfl ?_
    refine al_nil ?_
    repeat with_reducible first | apply S1 | apply S2 | apply S3 | apply S4 | apply S5 | apply S6 | apply S7 | apply S8 | refine S0 rfl ?_ | apply SA | apply SB | apply SC
    refine aw_cond_t rfl ?_
    repeat with_reducible first | apply S1 | apply S2 | apply S3 | apply S4 | apply S5 | apply S6 | apply S7 | apply S8 | refine S0 rfl ?_ | apply SA | apply SB | apply SC
    exact aret_0 [some 0, some 1, some 2] (fun _ => [.box [.c (prog_r v l)], .box [.o 2 0 o.length c], .arr 36 6 c (o.map Step.row)]) (by first | exact .inl rfl | exact .inr rfl) rfl (by decide) (fun i hi => by (have hi : i < 3 := hi); (obtain rfl | rfl | rfl : i = 0 ∨ i = 1 ∨ i = 2 := (by omega)) <;> rfl) (by intro _g; (repeat first | exact K0 | apply K1 rfl | apply K2 rfl rfl | apply K2 rfl (by simp) | apply K3 | exact L0 | apply L1 | exact V1 rfl | exact V2 rfl | exact V3 rfl rfl | exact V4 | exact V5 rfl | exact V3 rfl (by first | (simp; omega) | simp) | exact V1 (by first | (simp; omega) | simp) | exact V6 rfl rfl (by first | rfl | simp) (by simp) rfl | apply V7 | apply V8 | apply V9); fail_if_success focus skip) (fun _ => ⟨c, o, rfl, by rw [relE, if_pos (by omega), List.append_nil], rfl⟩)
  repeat with_reducible first | apply S1 | apply S2 | apply S3 | apply S4 | apply S5 | apply S6 | apply S7 | apply S8 | refine S0 rfl ?_ | apply SA | apply SB | apply SC
  refine aw_region ?_
  refine RA rfl rfl (by decide) (rd_fx rfl Tf36_0 rfl) ?_
  refine RA rfl rfl (by decide) (rd_loadn1 rfl Tk3 rfl (by first | exact CB rfl | exact CQ | exact CA rfl (by first | assumption | (rw [Nat.zero_add]; assumption))) (by (try simp only [nm, putL, Nat.reduceAdd, cellsOf, cvOf]) <;> rfl)) ?_
  first | refine RA rfl rfl (by decide) (rd_eql_t rfl rfl rfl (by omega)) ?_ | refine RA rfl rfl (by decide) (rd_eql_f rfl rfl rfl (by omega)) ?_ | refine RA rfl rfl (by decide) (rd_eql rfl rfl rfl) ?_
  refine M1 rfl ?_
  first | (refine G1 rfl ?_; (refine RA rfl rfl (by decide) (rd_fx rfl Tf36_0 rfl) ?_)) | refine G2 rfl rfl (by decide) ?_
  first | (refine G1 rfl ?_; (refine RA rfl rfl (by decide) (rd_loadn1 rfl Tk3 rfl (by first | exact CB rfl | exact CQ | exact CA rfl (by first | assumption | (rw [Nat.zero_add]; assumption))) (by (try simp only [nm, putL, Nat.reduceAdd, cellsOf, cvOf]) <;> rfl)) ?_)) | refine G2 rfl rfl (by decide) ?_
  first | (refine G1 rfl ?_; (first | refine RA rfl rfl (by decide) (rd_eql_t rfl rfl rfl (by omega)) ?_ | refine RA rfl rfl (by decide) (rd_eql_f rfl rfl rfl (by omega)) ?_ | refine RA rfl rfl (by decide) (rd_eql rfl rfl rfl) ?_)) | refine G2 rfl rfl (by decide) ?_
  refine M1 rfl ?_
  refine M1 rfl ?_
  refine al_nil ?_
  repeat with_reducible first | apply S1 | apply S2 | apply S3 | apply S4 | apply S5 | apply S6 | apply S7 | apply S8 | refine S0 rfl ?_ | apply SA | apply SB | apply SC
  refine aw_cond_f rfl ?_
  repeat with_reducible first | apply S1 | apply S2 | apply S3 | apply S4 | apply S5 | apply S6 | apply S7 | apply S8 | refine S0 rfl ?_ | apply SA | apply SB | apply SC
  by_cases h3 : s.k = 3 ∨ s.k = 4
  · repeat with_reducible first | apply S1 | apply S2 | apply S3 | apply S4 | apply S5 | apply S6 | apply S7 | apply S8 | refine S0 rfl ?_ | apply SA | apply SB | apply SC
    refine aw_region ?_
    refine RA rfl rfl (by decide) (rd_fx rfl Tf36_0 rfl) ?_
    refine RA rfl rfl (by decide) (rd_loadn1 rfl Tk3 rfl (by first | exact CB rfl | exact CQ | exact CA rfl (by first | assumption | (rw [Nat.zero_add]; assumption))) (by (try simp only [nm, putL, Nat.reduceAdd, cellsOf, cvOf]) <;> rfl)) ?_
    refine al_ef rfl (ef_call0 false (fun _ => placed_a _) rfl .fn rfl (by decide) Tc124 rfl (fun _g => .cons (.c rfl) .nil) (by simp)) ?_
    rintro _ _ ⟨_, _, _, ⟨bb, rfl, rfl, ⟨rfl, hb⟩ | ⟨rfl, hb⟩⟩, hF, hH⟩
    all_goals ((try simp only [nsl, Nat.reduceAdd, Nat.reduceLT, Nat.reduceSub] at hF); (try simp only [nsl, Nat.reduceAdd, Nat.reduceLT, Nat.reduceSub] at hH); subst hF; subst hH)
    all_goals (refine M1 rfl ?_)
    all_goals (refine al_nil ?_)
    all_goals (repeat with_reducible first | apply S1 | apply S2 | apply S3 | apply S4 | apply S5 | apply S6 | apply S7 | apply S8 | refine S0 rfl ?_ | apply SA | apply SB | apply SC)
    · refine aw_cond_t rfl ?_
      repeat with_reducible first | apply S1 | apply S2 | apply S3 | apply S4 | apply S5 | apply S6 | apply S7 | apply S8 | refine S0 rfl ?_ | apply SA | apply SB | apply SC
      refine aw_regionT [(0, none), (1, none), (2, none), (3, none), (4, none), (5, none), (6, none), (7, none), (8, none), (9, none), (10, none), (11, some [5, 6, 7, 8, 9]), (12, none), (13, some [])] hMixed (by kernel_rfl) ?_
      refine RT rfl rfl rfl (by decide) (rd_fx rfl Tf42_0 rfl) ?_
      refine RT rfl rfl rfl (by decide) (rd_loadn1 rfl Tk3 rfl (by first | exact CB rfl | exact CQ | exact CA rfl (by first | assumption | (rw [Nat.zero_add]; assumption))) (by (try simp only [nm, putL, Nat.reduceAdd, cellsOf, cvOf]) <;> rfl)) ?_
      refine RT rfl rfl rfl (by decide) (rd_fx rfl Tf42_0 rfl) ?_
      refine RT rfl rfl rfl (by decide) (rd_loadn1 rfl Tk3 rfl (by first | exact CB rfl | exact CQ | exact CA rfl (by first | assumption | (rw [Nat.zero_add]; assumption))) (by (try simp only [nm, putL, Nat.reduceAdd, cellsOf, cvOf]) <;> rfl)) ?_
      refine RT rfl rfl rfl (by decide) (rd_sub rfl rfl rfl) ?_
      refine RT rfl rfl rfl (by decide) (rd_fx rfl Tf42_1 rfl) ?_
      refine RT rfl rfl rfl (by decide) (rd_loadn1 rfl Tk3 rfl (by first | exact CB rfl | exact CQ | exact CA rfl (by first | assumption | (rw [Nat.zero_add]; assumption))) (by (try simp only [nm, putL, Nat.reduceAdd, cellsOf, cvOf]) <;> rfl)) ?_
      refine RT rfl rfl rfl (by decide) (rd_fx rfl Tf42_1 rfl) ?_
      refine RT rfl rfl rfl (by decide) (rd_loadn1 rfl Tk3 rfl (by first | exact CB rfl | exact CQ | exact CA rfl (by first | assumption | (rw [Nat.zero_add]; assumption))) (by (try simp only [nm, putL, Nat.reduceAdd, cellsOf, cvOf]) <;> rfl)) ?_
      refine RT rfl rfl rfl (by decide) (rd_sub rfl rfl rfl) ?_
      refine RT rfl rfl rfl (by decide) (rd_fx rfl Tf36_1 rfl) ?_
      first | refine at_ef2 rfl rfl (ef_storen rfl rfl rfl rfl rfl Ts3 rfl (by simp) rfl (by (try simp only [nm, putL, Nat.reduceAdd, cellsOf, cvOf]) <;> rfl) (by (try simp only [nm, putL, Nat.reduceAdd, cellsOf, cvOf]) <;> rfl)) (ag_cons (by first | exact ag_rd rfl rfl rfl (rd_fx rfl Tf42_1 rfl) rfl) (ag_cons (by first | exact ag_rd rfl rfl rfl (rd_loadn1 rfl Tk3 rfl (by first | exact CB rfl | exact CQ | exact CA rfl (by first | assumption | (rw [Nat.zero_add]; assumption))) (by (try simp only [nm, putL, Nat.reduceAdd, cellsOf, cvOf]) <;> rfl)) rfl) (ag_cons (by first | exact ag_rd rfl rfl rfl (rd_fx rfl Tf42_1 rfl) rfl) (ag_cons (by first | exact ag_rd rfl rfl rfl (rd_loadn1 rfl Tk3 rfl (by first | exact CB rfl | exact CQ | exact CA rfl (by first | assumption | (rw [Nat.zero_add]; assumption))) (by (try simp only [nm, putL, Nat.reduceAdd, cellsOf, cvOf]) <;> rfl)) rfl) (ag_cons (by first | exact ag_rd rfl rfl rfl (rd_sub rfl rfl rfl) rfl) (ag_none)))))) ?_ | refine at_ef2 rfl rfl (ef_storern rfl rfl rfl rfl (by first | assumption | (rw [Nat.zero_add]; assumption)) rfl rfl Ts3 rfl (by simp) rfl (by (try simp only [nm, putL, Nat.reduceAdd, cellsOf, cvOf]) <;> rfl) rfl) (ag_cons (by first | exact ag_rd rfl rfl rfl (rd_fx rfl Tf42_1 rfl) rfl) (ag_cons (by first | exact ag_rd rfl rfl rfl (rd_loadn1 rfl Tk3 rfl (by first | exact CB rfl | exact CQ | exact CA rfl (by first | assumption | (rw [Nat.zero_add]; assumption))) (by (try simp only [nm, putL, Nat.reduceAdd, cellsOf, cvOf]) <;> rfl)) rfl) (ag_cons (by first | exact ag_rd rfl rfl rfl (rd_fx rfl Tf42_1 rfl) rfl) (ag_cons (by first | exact ag_rd rfl rfl rfl (rd_loadn1 rfl Tk3 rfl (by first | exact CB rfl | exact CQ | exact CA rfl (by first | assumption | (rw [Nat.zero_add]; assumption))) (by (try simp only [nm, putL, Nat.reduceAdd, cellsOf, cvOf]) <;> rfl)) rfl) (ag_cons (by first | exact ag_rd rfl rfl rfl (rd_sub rfl rfl rfl) rfl) (ag_none)))))) ?_
      refine RT rfl rfl rfl (by decide) (rd_fx rfl Tf36_2 rfl) ?_
      first | refine at_ef2 rfl rfl (ef_storen rfl rfl rfl rfl rfl Ts3 rfl (by simp) rfl (by (try simp only [nm, putL, Nat.reduceAdd, cellsOf, cvOf]) <;> rfl) (by (try simp only [nm, putL, Nat.reduceAdd, cellsOf, cvOf]) <;> rfl)) (ag_none) ?_ | refine at_ef2 rfl rfl (ef_storern rfl rfl rfl rfl (by first | assumption | (rw [Nat.zero_add]; assumption)) rfl rfl Ts3 rfl (by simp) rfl (by (try simp only [nm, putL, Nat.reduceAdd, cellsOf, cvOf]) <;> rfl) rfl) (ag_none) ?_
      refine at_nil ?_
      repeat with_reducible first | apply S1 | apply S2 | apply S3 | apply S4 | apply S5 | apply S6 | apply S7 | apply S8 | refine S0 rfl ?_ | apply SA | apply SB | apply SC
      refine aw_region ?_
      refine RA rfl rfl (by decide) (rd_loadn1 rfl Tk26 rfl (by first | exact CB rfl | exact CQ | exact CA rfl (by first | assumption | (rw [Nat.zero_add]; assumption))) (by (try simp only [nm, putL, Nat.reduceAdd, cellsOf, cvOf]) <;> rfl)) ?_
      refine RA rfl rfl (by decide) (rd_loadn rfl Tk36 rfl (by first | exact CB rfl | exact CQ | exact CA rfl (by first | assumption | (rw [Nat.zero_add]; assumption))) (by (try simp only [nm, putL, Nat.reduceAdd, cellsOf, cvOf]) <;> rfl) (by simp)) ?_
      refine EA rfl (ef_buildSlicen rfl rfl (by decide) Te26 (.cons rfl rfl (.nil _)) rfl Tz36 rfl rfl (by simp) (by simp) (by (try simp only [nm, putL, Nat.reduceAdd, cellsOf, cvOf]) <;> rfl) (by (try simp only [nm, putL, Nat.reduceAdd, cellsOf, cvOf]) <;> rfl)) ?_
      refine al_ef rfl (ef_appn rfl rfl (by decide) Ta26 rfl rfl (by first | rfl | simp | (simp; omega)) rfl (by first | exact Src.own rfl (by (try simp only [nm, putL, Nat.reduceAdd, cellsOf, cvOf]) <;> rfl) (by first | rfl | simp | (simp; omega)) | exact Src.ro (by simp) (by simp [CV.one, Value.oneCell'])) (by (try simp only [nm, putL, Nat.reduceAdd, cellsOf, cvOf]) <;> rfl) (by omega) (fun _ _ => rfl) (by intro g c2; simp only [List.map_cons, List.map_nil, killO, killV, AV.has, AV.hasL, List.contains_cons, List.contains_nil, Nat.reduceBEq, Bool.or_false, Bool.false_or, Bool.false_eq_true, beq_self_eq_true, if_false, if_true, List.set_cons_zero, List.set_cons_succ, List.nil_append]; rfl)) ?_
      rintro _ _ ⟨_, cc, hcc, rfl, rfl⟩
      first | refine EA rfl (ef_storen rfl rfl rfl rfl rfl Ts26 rfl (by simp) rfl (by (try simp only [nm, putL, Nat.reduceAdd, cellsOf, cvOf]) <;> rfl) (by (try simp only [nm, putL, Nat.reduceAdd, cellsOf, cvOf]) <;> rfl)) ?_ | refine EA rfl (ef_storern rfl rfl rfl rfl (by first | assumption | (rw [Nat.zero_add]; assumption)) rfl rfl Ts26 rfl (by simp) rfl (by (try simp only [nm, putL, Nat.reduceAdd, cellsOf, cvOf]) <;> rfl) rfl) ?_
      refine al_nil ?_
      repeat with_reducible first | apply S1 | apply S2 | apply S3 | apply S4 | apply S5 | apply S6 | apply S7 | apply S8 | refine S0 rfl ?_ | apply SA | apply SB | apply SC
      exact aret_0 [some 0, some 1, some 2] (fun _ => [.box [.c (prog_r v l)], .box [.o 2 0 (o ++ [(⟨s.k, wrap64 (is.x - was.x), wrap64 (is.y - was.y), s.z, s.f, s.n⟩ : Step)]).length cc], .arr 36 6 cc ((o ++ [(⟨s.k, wrap64 (is.x - was.x), wrap64 (is.y - was.y), s.z, s.f, s.n⟩ : Step)]).map Step.row)]) (.inr rfl) rfl (by decide) (fun i hi => by (have hi : i < 3 := hi); (obtain rfl | rfl | rfl : i = 0 ∨ i = 1 ∨ i = 2 := (by omega)) <;> rfl) (by intro _g; (repeat first | exact K0 | apply K1 rfl | apply K2 rfl rfl | apply K2 rfl (by simp) | apply K3 | exact L0 | apply L1 | exact V1 rfl | exact V2 rfl | exact V3 rfl rfl | exact V4 | exact V5 rfl | exact V3 rfl (by first | (simp; omega) | simp) | exact V1 (by first | (simp; omega) | simp) | exact V6 rfl rfl (by first | rfl | simp) (by simp) rfl | apply V7 | apply V8 | apply V9); fail_if_success focus skip) (fun _ => ⟨cc, o ++ [(⟨s.k, wrap64 (is.x - was.x), wrap64 (is.y - was.y), s.z, s.f, s.n⟩ : Step)], rfl, by rw [relE, if_neg (by omega), relStep, if_pos h3], rfl⟩)
    · exact absurd h3 hb
  · repeat with_reducible first | apply S1 | apply S2 | apply S3 | apply S4 | apply S5 | apply S6 | apply S7 | apply S8 | refine S0 rfl ?_ | apply SA | apply SB | apply SC
    refine aw_region ?_
    refine RA rfl rfl (by decide) (rd_fx rfl Tf36_0 rfl) ?_
    refine RA rfl rfl (by decide) (rd_loadn1 rfl Tk3 rfl (by first | exact CB rfl | exact CQ | exact CA rfl (by first | assumption | (rw [Nat.zero_add]; assumption))) (by (try simp only [nm, putL, Nat.reduceAdd, cellsOf, cvOf]) <;> rfl)) ?_
    refine al_ef rfl (ef_call0 false (fun _ => placed_a _) rfl .fn rfl (by decide) Tc124 rfl (fun _g => .cons (.c rfl) .nil) (by simp)) ?_
    rintro _ _ ⟨_, _, _, ⟨bb, rfl, rfl, ⟨rfl, hb⟩ | ⟨rfl, hb⟩⟩, hF, hH⟩
    all_goals ((try simp only [nsl, Nat.reduceAdd, Nat.reduceLT, Nat.reduceSub] at hF); (try simp only [nsl, Nat.reduceAdd, Nat.reduceLT, Nat.reduceSub] at hH); subst hF; subst hH)
    all_goals (refine M1 rfl ?_)
    all_goals (refine al_nil ?_)
    all_goals (repeat with_reducible first | apply S1 | apply S2 | apply S3 | apply S4 | apply S5 | apply S6 | apply S7 | apply S8 | refine S0 rfl ?_ | apply SA | apply SB | apply SC)
    · exact absurd hb h3
    · refine aw_cond_f rfl ?_
      repeat with_reducible first | apply S1 | apply S2 | apply S3 | apply S4 | apply S5 | apply S6 | apply S7 | apply S8 | refine S0 rfl ?_ | apply SA | apply SB | apply SC
      refine aw_region ?_
      refine RA rfl rfl (by decide) (rd_fx rfl Tf36_0 rfl) ?_
      refine RA rfl rfl (by decide) (rd_loadn1 rfl Tk3 rfl (by first | exact CB rfl | exact CQ | exact CA rfl (by first | assumption | (rw [Nat.zero_add]; assumption))) (by (try simp only [nm, putL, Nat.reduceAdd, cellsOf, cvOf]) <;> rfl)) ?_
      first | refine RA rfl rfl (by decide) (rd_eql_t rfl rfl rfl (by omega)) ?_ | refine RA rfl rfl (by decide) (rd_eql_f rfl rfl rfl (by omega)) ?_ | refine RA rfl rfl (by decide) (rd_eql rfl rfl rfl) ?_
      refine M1 rfl ?_
      refine al_nil ?_
      repeat with_reducible first | apply S1 | apply S2 | apply S3 | apply S4 | apply S5 | apply S6 | apply S7 | apply S8 | refine S0 rfl ?_ | apply SA | apply SB | apply SC
      refine aw_if rfl (fun h5 => ?_) (fun h5 => ?_)
      · repeat with_reducible first | apply S1 | apply S2 | apply S3 | apply S4 | apply S5 | apply S6 | apply S7 | apply S8 | refine S0 rfl ?_ | apply SA | apply SB | apply SC
        refine aw_region ?_
        refine RA rfl rfl (by decide) (rd_fx rfl Tf42_2 rfl) ?_
        refine RA rfl rfl (by decide) (rd_loadn1 rfl Tk3 rfl (by first | exact CB rfl | exact CQ | exact CA rfl (by first | assumption | (rw [Nat.zero_add]; assumption))) (by (try simp only [nm, putL, Nat.reduceAdd, cellsOf, cvOf]) <;> rfl)) ?_
        refine RA rfl rfl (by decide) (rd_fx rfl Tf42_2 rfl) ?_
        refine RA rfl rfl (by decide) (rd_loadn1 rfl Tk3 rfl (by first | exact CB rfl | exact CQ | exact CA rfl (by first | assumption | (rw [Nat.zero_add]; assumption))) (by (try simp only [nm, putL, Nat.reduceAdd, cellsOf, cvOf]) <;> rfl)) ?_
        refine RA rfl rfl (by decide) (rd_sub rfl rfl rfl) ?_
        refine RA rfl rfl (by decide) (rd_fx rfl Tf36_3 rfl) ?_
        first | refine EA rfl (ef_storen rfl rfl rfl rfl rfl Ts3 rfl (by simp) rfl (by (try simp only [nm, putL, Nat.reduceAdd, cellsOf, cvOf]) <;> rfl) (by (try simp only [nm, putL, Nat.reduceAdd, cellsOf, cvOf]) <;> rfl)) ?_ | refine EA rfl (ef_storern rfl rfl rfl rfl (by first | assumption | (rw [Nat.zero_add]; assumption)) rfl rfl Ts3 rfl (by simp) rfl (by (try simp only [nm, putL, Nat.reduceAdd, cellsOf, cvOf]) <;> rfl) rfl) ?_
        refine al_nil ?_
        repeat with_reducible first | apply S1 | apply S2 | apply S3 | apply S4 | apply S5 | apply S6 | apply S7 | apply S8 | refine S0 rfl ?_ | apply SA | apply SB | apply SC
        refine aw_region ?_
        refine RA rfl rfl (by decide) (rd_loadn1 rfl Tk26 rfl (by first | exact CB rfl | exact CQ | exact CA rfl (by first | assumption | (rw [Nat.zero_add]; assumption))) (by (try simp only [nm, putL, Nat.reduceAdd, cellsOf, cvOf]) <;> rfl)) ?_
        refine RA rfl rfl (by decide) (rd_loadn rfl Tk36 rfl (by first | exact CB rfl | exact CQ | exact CA rfl (by first | assumption | (rw [Nat.zero_add]; assumption))) (by (try simp only [nm, putL, Nat.reduceAdd, cellsOf, cvOf]) <;> rfl) (by simp)) ?_
        refine EA rfl (ef_buildSlicen rfl rfl (by decide) Te26 (.cons rfl rfl (.nil _)) rfl Tz36 rfl rfl (by simp) (by simp) (by (try simp only [nm, putL, Nat.reduceAdd, cellsOf, cvOf]) <;> rfl) (by (try simp only [nm, putL, Nat.reduceAdd, cellsOf, cvOf]) <;> rfl)) ?_
        refine al_ef rfl (ef_appn rfl rfl (by decide) Ta26 rfl rfl (by first | rfl | simp | (simp; omega)) rfl (by first | exact Src.own rfl (by (try simp only [nm, putL, Nat.reduceAdd, cellsOf, cvOf]) <;> rfl) (by first | rfl | simp | (simp; omega)) | exact Src.ro (by simp) (by simp [CV.one, Value.oneCell'])) (by (try simp only [nm, putL, Nat.reduceAdd, cellsOf, cvOf]) <;> rfl) (by omega) (fun _ _ => rfl) (by intro g c2; simp only [List.map_cons, List.map_nil, killO, killV, AV.has, AV.hasL, List.contains_cons, List.contains_nil, Nat.reduceBEq, Bool.or_false, Bool.false_or, Bool.false_eq_true, beq_self_eq_true, if_false, if_true, List.set_cons_zero, List.set_cons_succ, List.nil_append]; rfl)) ?_
        rintro _ _ ⟨_, cc, hcc, rfl, rfl⟩
        first | refine EA rfl (ef_storen rfl rfl rfl rfl rfl Ts26 rfl (by simp) rfl (by (try simp only [nm, putL, Nat.reduceAdd, cellsOf, cvOf]) <;> rfl) (by (try simp only [nm, putL, Nat.reduceAdd, cellsOf, cvOf]) <;> rfl)) ?_ | refine EA rfl (ef_storern rfl rfl rfl rfl (by first | assumption | (rw [Nat.zero_add]; assumption)) rfl rfl Ts26 rfl (by simp) rfl (by (try simp only [nm, putL, Nat.reduceAdd, cellsOf, cvOf]) <;> rfl) rfl) ?_
        refine al_nil ?_
        repeat with_reducible first | apply S1 | apply S2 | apply S3 | apply S4 | apply S5 | apply S6 | apply S7 | apply S8 | refine S0 rfl ?_ | apply SA | apply SB | apply SC
        exact aret_0 [some 0, some 1, some 2] (fun _ => [.box [.c (prog_r v l)], .box [.o 2 0 (o ++ [(⟨s.k, s.x, s.y, wrap64 (is.z - was.z), s.f, s.n⟩ : Step)]).length cc], .arr 36 6 cc ((o ++ [(⟨s.k, s.x, s.y, wrap64 (is.z - was.z), s.f, s.n⟩ : Step)]).map Step.row)]) (.inr rfl) rfl (by decide) (fun i hi => by (have hi : i < 3 := hi); (obtain rfl | rfl | rfl : i = 0 ∨ i = 1 ∨ i = 2 := (by omega)) <;> rfl) (by intro _g; (repeat first | exact K0 | apply K1 rfl | apply K2 rfl rfl | apply K2 rfl (by simp) | apply K3 | exact L0 | apply L1 | exact V1 rfl | exact V2 rfl | exact V3 rfl rfl | exact V4 | exact V5 rfl | exact V3 rfl (by first | (simp; omega) | simp) | exact V1 (by first | (simp; omega) | simp) | exact V6 rfl rfl (by first | rfl | simp) (by simp) rfl | apply V7 | apply V8 | apply V9); fail_if_success focus skip) (fun _ => ⟨cc, o ++ [(⟨s.k, s.x, s.y, wrap64 (is.z - was.z), s.f, s.n⟩ : Step)], rfl, by rw [relE, if_neg (by omega), relStep, if_neg h3, if_pos h5], rfl⟩)
      · repeat with_reducible first | apply S1 | apply S2 | apply S3 | apply S4 | apply S5 | apply S6 | apply S7 | apply S8 | refine S0 rfl ?_ | apply SA | apply SB | apply SC
        repeat with_reducible first | apply S1 | apply S2 | apply S3 | apply S4 | apply S5 | apply S6 | apply S7 | apply S8 | refine S0 rfl ?_ | apply SA | apply SB | apply SC
        refine aw_region ?_
        refine RA rfl rfl (by decide) (rd_loadn1 rfl Tk26 rfl (by first | exact CB rfl | exact CQ | exact CA rfl (by first | assumption | (rw [Nat.zero_add]; assumption))) (by (try simp only [nm, putL, Nat.reduceAdd, cellsOf, cvOf]) <;> rfl)) ?_
        refine RA rfl rfl (by decide) (rd_loadn rfl Tk36 rfl (by first | exact CB rfl | exact CQ | exact CA rfl (by first | assumption | (rw [Nat.zero_add]; assumption))) (by (try simp only [nm, putL, Nat.reduceAdd, cellsOf, cvOf]) <;> rfl) (by simp)) ?_
        refine EA rfl (ef_buildSlicen rfl rfl (by decide) Te26 (.cons rfl rfl (.nil _)) rfl Tz36 rfl rfl (by simp) (by simp) (by (try simp only [nm, putL, Nat.reduceAdd, cellsOf, cvOf]) <;> rfl) (by (try simp only [nm, putL, Nat.reduceAdd, cellsOf, cvOf]) <;> rfl)) ?_
        refine al_ef rfl (ef_appn rfl rfl (by decide) Ta26 rfl rfl (by first | rfl | simp | (simp; omega)) rfl (by first | exact Src.own rfl (by (try simp only [nm, putL, Nat.reduceAdd, cellsOf, cvOf]) <;> rfl) (by first | rfl | simp | (simp; omega)) | exact Src.ro (by simp) (by simp [CV.one, Value.oneCell'])) (by (try simp only [nm, putL, Nat.reduceAdd, cellsOf, cvOf]) <;> rfl) (by omega) (fun _ _ => rfl) (by intro g c2; simp only [List.map_cons, List.map_nil, killO, killV, AV.has, AV.hasL, List.contains_cons, List.contains_nil, Nat.reduceBEq, Bool.or_false, Bool.false_or, Bool.false_eq_true, beq_self_eq_true, if_false, if_true, List.set_cons_zero, List.set_cons_succ, List.nil_append]; rfl)) ?_
        rintro _ _ ⟨_, cc, hcc, rfl, rfl⟩
        first | refine EA rfl (ef_storen rfl rfl rfl rfl rfl Ts26 rfl (by simp) rfl (by (try simp only [nm, putL, Nat.reduceAdd, cellsOf, cvOf]) <;> rfl) (by (try simp only [nm, putL, Nat.reduceAdd, cellsOf, cvOf]) <;> rfl)) ?_ | refine EA rfl (ef_storern rfl rfl rfl rfl (by first | assumption | (rw [Nat.zero_add]; assumption)) rfl rfl Ts26 rfl (by simp) rfl (by (try simp only [nm, putL, Nat.reduceAdd, cellsOf, cvOf]) <;> rfl) rfl) ?_
        refine al_nil ?_
        repeat with_reducible first | apply S1 | apply S2 | apply S3 | apply S4 | apply S5 | apply S6 | apply S7 | apply S8 | refine S0 rfl ?_ | apply SA | apply SB | apply SC
        exact aret_0 [some 0, some 1, some 2] (fun _ => [.box [.c (prog_r v l)], .box [.o 2 0 (o ++ [s]).length cc], .arr 36 6 cc ((o ++ [s]).map Step.row)]) (.inr rfl) rfl (by decide) (fun i hi => by (have hi : i < 3 := hi); (obtain rfl | rfl | rfl : i = 0 ∨ i = 1 ∨ i = 2 := (by omega)) <;> rfl) (by intro _g; (repeat first | exact K0 | apply K1 rfl | apply K2 rfl rfl | apply K2 rfl (by simp) | apply K3 | exact L0 | apply L1 | exact V1 rfl | exact V2 rfl | exact V3 rfl rfl | exact V4 | exact V5 rfl | exact V3 rfl (by first | (simp; omega) | simp) | exact V1 (by first | (simp; omega) | simp) | exact V6 rfl rfl (by first | rfl | simp) (by simp) rfl | apply V7 | apply V8 | apply V9); fail_if_success focus skip) (fun _ => ⟨cc, o ++ [s], rfl, by rw [relE, if_neg (by omega), relStep, if_neg h3, if_neg h5], rfl⟩)
def relJ (l : List Step) (k : Nat) (o : List Step) : Prop := o ++ relFrom (lastS (l.take k)) (l.drop k) = relFrom Mach.zero l ∧ o.length ≤ k
theorem relJ_next {l : List Step} {k : Nat} {o : List Step} {s : Step} (h : relJ l k o) (hs : l[k]? = some s) : relJ l (k + 1) (o ++ relE (lastS (l.take k)) (afterS (lastS (l.take k)) s) s) := by
  obtain ⟨h1, h2⟩ := h
  refine ⟨?_, ?_⟩
  · rw [← h1, drop_cons hs, lastS_succ hs, relFrom, List.append_assoc]
  · unfold relE; split <;> simp <;> omega
def relF (l : List Step) : Int := if progF l ≠ 0 then progF l else progF (relL l)
theorem aw_ole {P : Program} {N : Nat} {E : Env} {F : Fm} {H : List OB} {cd : Code} {Q : Exit → Fm → List OB → Prop} {t b k n c : Nat} (hx : F.lookup t = some (.o b k n c)) (h : n ≤ c → AW P N E cd F H Q) : AW P N E cd F H Q := fun S ρ a w hR =>
  h (by have := (hR.fr t _ hx).2; cases this; assumption) S ρ a w hR
theorem relative_a (l : List Step) (v : Value) (hl : l.length ≤ 900000) (hok : ∀ s ∈ l, s.ok) : ACalls Try.prog 63 [.c (prog_r v l)] [] fun u H => ∃ v', u = .t [.c (prog_r v' (if relF l = 0 then relL l else [])), .c (I (relF l))] ∧ H = [] := by
  have h00 : relJ l 0 [] := ⟨rfl, Nat.le_refl _⟩
  have hst : ∀ k c o s, l[k]? = some s → relJ l k o → k ≤ 1000000 → ACalls Try.prog 139 [.c (I k), .a ((lastS (l.take k)).row.map .c), .a ((afterS (lastS (l.take k)) s).row.map .c), .p 0 0 0, .p 1 0 0] (gath l v c o) fun u H => ∃ c' o', u = .t [] ∧ relJ l (k + 1) o' ∧ H = gath l v c' o' := fun k c o s hs hJ hk => by
    refine (relative1_a k (lastS (l.take k)) (afterS (lastS (l.take k)) s) o c l v s hs (by have := hJ.2; omega)).mono fun u H ⟨c', o', h1, h2, h3⟩ => ⟨c', o', h1, ?_, h3⟩
    rw [h2]; exact relJ_next hJ hs
  refine acalls_of (N := 25) Try.func63 rfl rfl (by simp) fun E hE => ?_
  repeat with_reducible first | apply S1 | apply S2 | apply S3 | apply S4 | apply S5 | apply S6 | apply S7 | apply S8 | refine S0 rfl ?_ | apply SA | apply SB | apply SC
  refine aw_region ?_
  refine EA rfl (ef_boxn rfl rfl (by decide) rfl (by (try simp only [nm, putL, Nat.reduceAdd, cellsOf, cvOf]) <;> rfl) rfl (by (try simp only [nm, putL, Nat.reduceAdd, cellsOf, cvOf]) <;> rfl) (by (try simp only [nm, putL, Nat.reduceAdd, cellsOf, cvOf]) <;> rfl)) ?_
  refine M1 rfl ?_
  refine M1 rfl ?_
  refine al_nil ?_
  repeat with_reducible first | apply S1 | apply S2 | apply S3 | apply S4 | apply S5 | apply S6 | apply S7 | apply S8 | refine S0 rfl ?_ | apply SA | apply SB | apply SC
  refine aw_region ?_
  refine RA rfl rfl (by decide) (rd_loadn1 rfl Tk26 rfl (by first | exact CB rfl | exact CQ | exact CA rfl (by first | assumption | (rw [Nat.zero_add]; assumption))) (by (try simp only [nm, putL, Nat.reduceAdd, cellsOf, cvOf]) <;> rfl)) ?_
  refine al_ef rfl (ef_call0 false (fun _ => check_a l v (by omega)) rfl .fn rfl (by decide) Tc23 rfl (fun _ => C0 rfl) (by simp)) ?_
  rintro _ _ ⟨_, _, _, ⟨rfl, rfl⟩, hF, hH⟩
  (try simp only [nsl, Nat.reduceAdd, Nat.reduceLT, Nat.reduceSub] at hF); (try simp only [nsl, Nat.reduceAdd, Nat.reduceLT, Nat.reduceSub] at hH); subst hF; subst hH
  refine M1 rfl ?_
  refine al_nil ?_
  repeat with_reducible first | apply S1 | apply S2 | apply S3 | apply S4 | apply S5 | apply S6 | apply S7 | apply S8 | refine S0 rfl ?_ | apply SA | apply SB | apply SC
  refine aw_region ?_
  refine M1 rfl ?_
  first | refine RA rfl rfl (by decide) (rd_neq_t rfl rfl rfl (by omega)) ?_ | refine RA rfl rfl (by decide) (rd_neq_f rfl rfl rfl (by omega)) ?_ | refine RA rfl rfl (by decide) (rd_neq rfl rfl rfl) ?_
  refine al_nil ?_
  repeat with_reducible first | apply S1 | apply S2 | apply S3 | apply S4 | apply S5 | apply S6 | apply S7 | apply S8 | refine S0 rfl ?_ | apply SA | apply SB | apply SC
  refine aw_if rfl (fun hne => ?_) (fun heq => ?_)
  · have ha : relF l = progF l := by rw [relF, if_pos hne]
    rw [ha]
    repeat with_reducible first | apply S1 | apply S2 | apply S3 | apply S4 | apply S5 | apply S6 | apply S7 | apply S8 | refine S0 rfl ?_ | apply SA | apply SB | apply SC
    refine aw_region ?_
    refine M1 rfl ?_
    refine M1 rfl ?_
    refine M1 rfl ?_
    refine al_nil ?_
    repeat with_reducible first | apply S1 | apply S2 | apply S3 | apply S4 | apply S5 | apply S6 | apply S7 | apply S8 | refine S0 rfl ?_ | apply SA | apply SB | apply SC
    exact aret_2 [] _ rfl rfl rfl rfl rfl (by decide) (fun _ hi => absurd hi (Nat.not_lt_zero _)) (fun _ => .nil) ⟨_, by rw [if_neg hne]; rfl, rfl⟩
  have ha : relF l = progF (relL l) := by rw [relF, if_neg heq]
  rw [ha]
  repeat with_reducible first | apply S1 | apply S2 | apply S3 | apply S4 | apply S5 | apply S6 | apply S7 | apply S8 | refine S0 rfl ?_ | apply SA | apply SB | apply SC
  refine aw_region ?_
  refine EA rfl (ef_allocn rfl rfl (by decide) Tz26 rfl rfl (by (try simp only [nm, putL, Nat.reduceAdd, cellsOf, cvOf]) <;> rfl) (by (try simp only [nm, putL, Nat.reduceAdd, cellsOf, cvOf]) <;> rfl)) ?_
  refine al_nil ?_
  refine aseq_n ?_
  refine aw_wk (wk_of (K := fun F H => F = [(1, .p 0 0 0), (5, .p 1 0 0)] ∧ H = [.box [.c (prog_r v l)], .box [.o 2 0 0 0], .arr 36 6 0 []]) [some 0, some 1, none] (fun _ => [(1, .p 0 0 0), (5, .p 1 0 0)]) (fun _ => [.box [.c (prog_r v l)], .box [.o 2 0 0 0], .arr 36 6 0 []]) (by decide) (by rw [hE]; exact (fun _ hi => absurd hi (Nat.not_lt_zero _))) (by intro _g; (repeat first | exact W0 | apply W1 rfl | exact L0 | apply L1 | exact V1 rfl | exact V2 rfl | exact V3 rfl rfl | exact V4 | exact V5 rfl | exact V3 rfl (by first | (simp; omega) | simp) | exact V1 (by first | (simp; omega) | simp) | exact V6 rfl rfl (by first | rfl | simp) (by simp) rfl | apply V7 | apply V8 | apply V9 | refine V1 ?_ | refine V3 rfl ?_); fail_if_success focus skip) (by intro _g; (repeat first | exact K0 | apply K1 rfl | apply K2 rfl rfl | apply K2 rfl (by simp) | apply K3 | exact L0 | apply L1 | exact V1 rfl | exact V2 rfl | exact V3 rfl rfl | exact V4 | exact V5 rfl | exact V3 rfl (by first | (simp; omega) | simp) | exact V1 (by first | (simp; omega) | simp) | exact V6 rfl rfl (by first | rfl | simp) (by simp) rfl | apply V7 | apply V8 | apply V9); fail_if_success focus skip) (fun _ => ⟨rfl, rfl⟩)) ?_
  rintro F H ⟨rfl, rfl⟩
  repeat with_reducible first | apply S1 | apply S2 | apply S3 | apply S4 | apply S5 | apply S6 | apply S7 | apply S8 | refine S0 rfl ?_ | apply SA | apply SB | apply SC
  refine aw_region ?_
  refine RA rfl rfl (by decide) (rd_loadn1 rfl Tk26 rfl (by first | exact CB rfl | exact CQ | exact CA rfl (by first | assumption | (rw [Nat.zero_add]; assumption))) (by (try simp only [nm, putL, Nat.reduceAdd, cellsOf, cvOf]) <;> rfl)) ?_
  refine RA rfl rfl (by decide) (rd_makeFunc rfl rfl) ?_
  refine al_ef rfl (ef_call [0, 1, 2] (fun _ => [.box [.c (prog_r v l)], .box [.o 2 0 0 0], .arr 36 6 0 []]) false (fun _ => runS_a 139 Tc139 (relJ l) l v (by omega) hok hst 0 [] h00) rfl .fn rfl (by decide) Tc92 rfl (by intro _g; (repeat first | exact K0 | apply K1 rfl | apply K2 rfl rfl | apply K2 rfl (by simp) | apply K3 | exact L0 | apply L1 | exact V1 rfl | exact V2 rfl | exact V3 rfl rfl | exact V4 | exact V5 rfl | exact V3 rfl (by first | (simp; omega) | simp) | exact V1 (by first | (simp; omega) | simp) | exact V6 rfl rfl (by first | rfl | simp) (by simp) rfl | apply V7 | apply V8 | apply V9); fail_if_success focus skip) (by decide) (by intro _g; (repeat first | exact K0 | apply K1 rfl | apply K2 rfl rfl | apply K2 rfl (by simp) | apply K3 | exact L0 | apply L1 | exact V1 rfl | exact V2 rfl | exact V3 rfl rfl | exact V4 | exact V5 rfl | exact V3 rfl (by first | (simp; omega) | simp) | exact V1 (by first | (simp; omega) | simp) | exact V6 rfl rfl (by first | rfl | simp) (by simp) rfl | apply V7 | apply V8 | apply V9); fail_if_success focus skip) (by simp)) ?_
  rintro F1 H1 ⟨_, _, _, _, ⟨c', o', rfl, hJ, hq⟩, hF, hH⟩
  subst hq
  (try simp only [List.set_cons_zero, List.set_cons_succ, updH, posOf, lentArr, killF, killO, killV, AV.has, AV.hasL, AV.emb, AV.embL, OB.emb, embB, List.filter_cons, List.filter_nil, List.getElem?_cons_zero, List.getElem?_cons_succ, List.getD_cons_zero, List.getD_cons_succ, List.drop_succ_cons, List.drop_zero, List.drop_nil, List.contains_cons, List.contains_nil, Nat.reduceBEq, Nat.reduceEqDiff, beq_self_eq_true, Bool.or_false, Bool.false_or, Bool.or_true, Bool.true_or, Bool.false_eq_true, Option.map_some, Option.map_none, List.map_cons, List.map_nil, List.cons_append, List.nil_append, List.append_nil, List.length_cons, List.length_nil, Nat.reduceAdd, Nat.reduceLT, Nat.reduceSub, if_true, if_false, Nat.zero_add, Nat.add_zero, Nat.sub_zero, Nat.lt_irrefl, Nat.not_lt_zero, Nat.zero_lt_one, Nat.lt_add_one] at hF); (try simp only [List.set_cons_zero, List.set_cons_succ, updH, posOf, lentArr, killF, killO, killV, AV.has, AV.hasL, AV.emb, AV.embL, OB.emb, embB, List.filter_cons, List.filter_nil, List.getElem?_cons_zero, List.getElem?_cons_succ, List.getD_cons_zero, List.getD_cons_succ, List.drop_succ_cons, List.drop_zero, List.drop_nil, List.contains_cons, List.contains_nil, Nat.reduceBEq, Nat.reduceEqDiff, beq_self_eq_true, Bool.or_false, Bool.false_or, Bool.or_true, Bool.true_or, Bool.false_eq_true, Option.map_some, Option.map_none, List.map_cons, List.map_nil, List.cons_append, List.nil_append, List.append_nil, List.length_cons, List.length_nil, Nat.reduceAdd, Nat.reduceLT, Nat.reduceSub, if_true, if_false, Nat.zero_add, Nat.add_zero, Nat.sub_zero, Nat.lt_irrefl, Nat.not_lt_zero, Nat.zero_lt_one, Nat.lt_add_one] at hH); subst hF; subst hH
  refine al_nil ?_
  repeat with_reducible first | apply S1 | apply S2 | apply S3 | apply S4 | apply S5 | apply S6 | apply S7 | apply S8 | refine S0 rfl ?_ | apply SA | apply SB | apply SC
  obtain ⟨hJ1, hJ2⟩ := hJ
  rw [List.drop_eq_nil_of_le (Nat.le_refl _), relFrom, List.append_nil] at hJ1
  have hrl : relL l = headR o' := by rw [relL, ← hJ1]
  have hrn := headR_len o'
  repeat with_reducible first | apply S1 | apply S2 | apply S3 | apply S4 | apply S5 | apply S6 | apply S7 | apply S8 | refine S0 rfl ?_ | apply SA | apply SB | apply SC
  refine aw_region ?_
  refine RA rfl rfl (by decide) (rd_loadn1 rfl Tk26 rfl (by first | exact CB rfl | exact CQ | exact CA rfl (by first | assumption | (rw [Nat.zero_add]; assumption))) (by (try simp only [nm, putL, Nat.reduceAdd, cellsOf, cvOf]) <;> rfl)) ?_
  refine RA rfl rfl (by decide) (rd_lx rfl Te26 rfl) ?_
  first | refine RA rfl rfl (by decide) (rd_gtr_t rfl rfl rfl (by omega)) ?_ | refine RA rfl rfl (by decide) (rd_gtr_f rfl rfl rfl (by omega)) ?_ | refine RA rfl rfl (by decide) (rd_gtr rfl rfl rfl) ?_
  refine al_nil ?_
  refine aseq_n ?_
  refine aw_ole (t := 14) rfl fun hcc => ?_
  refine aw_cut (fun F H => ∃ c2, F = [(5, .p 0 0 0)] ∧ H = [.box [.o 1 0 (relL l).length c2], .arr 36 6 c2 ((relL l).map Step.row)]) ?_ ?_ wk_aw
  · refine aw_if rfl (fun hgt => ?_) (fun hle => ?_)
    · have hne : o' ≠ [] := fun h => by rw [h] at hgt; simp at hgt
      have hrl2 : relL l = ⟨2, 0, 0, 0, 0, 0⟩ :: o' := by rw [hrl, headR, if_neg hne]
      rw [hrl2]
      repeat with_reducible first | apply S1 | apply S2 | apply S3 | apply S4 | apply S5 | apply S6 | apply S7 | apply S8 | refine S0 rfl ?_ | apply SA | apply SB | apply SC
      refine aw_region ?_
      refine RA rfl rfl (by decide) (rd_loadn1 rfl Tk26 rfl (by first | exact CB rfl | exact CQ | exact CA rfl (by first | assumption | (rw [Nat.zero_add]; assumption))) (by (try simp only [nm, putL, Nat.reduceAdd, cellsOf, cvOf]) <;> rfl)) ?_
      refine RA rfl rfl (by decide) (rd_build rfl Tz36 rfl Tb36 (.cons rfl rfl rfl (by simp) rfl (by (try simp only [nm, putL, Nat.reduceAdd, cellsOf, cvOf]) <;> rfl) (.nil))) ?_
      refine EA rfl (ef_buildSlicen rfl rfl (by decide) Te26 (.cons rfl rfl (.nil _)) rfl Tz36 rfl rfl (by simp) (by simp) (by (try simp only [nm, putL, Nat.reduceAdd, cellsOf, cvOf]) <;> rfl) (by (try simp only [nm, putL, Nat.reduceAdd, cellsOf, cvOf]) <;> rfl)) ?_
      refine al_ef rfl (ef_call [2, 3] (fun _ => [.arr 36 6 c' (o'.map Step.row), .arr 36 6 1 [(⟨2, 0, 0, 0, 0, 0⟩ : Step).row]]) false (fun _ => insert_a ⟨2, 0, 0, 0, 0, 0⟩ o' c' (by omega) hcc (by omega)) rfl .fn rfl (by decide) Tc140 rfl (by intro _g; (repeat first | exact K0 | apply K1 rfl | apply K2 rfl rfl | apply K2 rfl (by simp) | apply K3 | exact L0 | apply L1 | exact V1 rfl | exact V2 rfl | exact V3 rfl rfl | exact V4 | exact V5 rfl | exact V3 rfl (by first | (simp; omega) | simp) | exact V1 (by first | (simp; omega) | simp) | exact V6 rfl rfl (by first | rfl | simp) (by simp) rfl | apply V7 | apply V8 | apply V9); fail_if_success focus skip) (by decide) (by intro _g; (repeat first | exact K0 | apply K1 rfl | apply K2 rfl rfl | apply K2 rfl (by simp) | apply K3 | exact L0 | apply L1 | exact V1 rfl | exact V2 rfl | exact V3 rfl rfl | exact V4 | exact V5 rfl | exact V3 rfl (by first | (simp; omega) | simp) | exact V1 (by first | (simp; omega) | simp) | exact V6 rfl rfl (by first | rfl | simp) (by simp) rfl | apply V7 | apply V8 | apply V9); fail_if_success focus skip) (by simp)) ?_
      rintro F1 H1 ⟨_, _, _, _, ⟨rfl, hq⟩ | ⟨c2, rfl, hq⟩, hF, hH⟩
      all_goals ((subst hq; (try simp only [List.set_cons_zero, List.set_cons_succ, updH, posOf, lentArr, killF, killO, killV, AV.has, AV.hasL, AV.emb, AV.embL, OB.emb, embB, List.filter_cons, List.filter_nil, List.getElem?_cons_zero, List.getElem?_cons_succ, List.getD_cons_zero, List.getD_cons_succ, List.drop_succ_cons, List.drop_zero, List.drop_nil, List.contains_cons, List.contains_nil, Nat.reduceBEq, Nat.reduceEqDiff, beq_self_eq_true, Bool.or_false, Bool.false_or, Bool.or_true, Bool.true_or, Bool.false_eq_true, Option.map_some, Option.map_none, List.map_cons, List.map_nil, List.cons_append, List.nil_append, List.append_nil, List.length_cons, List.length_nil, Nat.reduceAdd, Nat.reduceLT, Nat.reduceSub, if_true, if_false, Nat.zero_add, Nat.add_zero, Nat.sub_zero, Nat.lt_irrefl, Nat.not_lt_zero, Nat.zero_lt_one, Nat.lt_add_one] at hF); (try simp only [List.set_cons_zero, List.set_cons_succ, updH, posOf, lentArr, killF, killO, killV, AV.has, AV.hasL, AV.emb, AV.embL, OB.emb, embB, List.filter_cons, List.filter_nil, List.getElem?_cons_zero, List.getElem?_cons_succ, List.getD_cons_zero, List.getD_cons_succ, List.drop_succ_cons, List.drop_zero, List.drop_nil, List.contains_cons, List.contains_nil, Nat.reduceBEq, Nat.reduceEqDiff, beq_self_eq_true, Bool.or_false, Bool.false_or, Bool.or_true, Bool.true_or, Bool.false_eq_true, Option.map_some, Option.map_none, List.map_cons, List.map_nil, List.cons_append, List.nil_append, List.append_nil, List.length_cons, List.length_nil, Nat.reduceAdd, Nat.reduceLT, Nat.reduceSub, if_true, if_false, Nat.zero_add, Nat.add_zero, Nat.sub_zero, Nat.lt_irrefl, Nat.not_lt_zero, Nat.zero_lt_one, Nat.lt_add_one] at hH); subst hF; subst hH))
      all_goals (first | refine EA rfl (ef_storen rfl rfl rfl rfl rfl Ts26 rfl (by simp) rfl (by (try simp only [nm, putL, Nat.reduceAdd, cellsOf, cvOf]) <;> rfl) (by (try simp only [nm, putL, Nat.reduceAdd, cellsOf, cvOf]) <;> rfl)) ?_ | refine EA rfl (ef_storern rfl rfl rfl rfl (by first | assumption | (rw [Nat.zero_add]; assumption)) rfl rfl Ts26 rfl (by simp) rfl (by (try simp only [nm, putL, Nat.reduceAdd, cellsOf, cvOf]) <;> rfl) rfl) ?_)
      all_goals (refine al_nil ?_)
      all_goals (repeat with_reducible first | apply S1 | apply S2 | apply S3 | apply S4 | apply S5 | apply S6 | apply S7 | apply S8 | refine S0 rfl ?_ | apply SA | apply SB | apply SC)
      · refine wk_of [some 1, some 2] (fun _ => [(5, .p 0 0 0)]) (fun _ => [.box [.o 1 0 ((⟨2, 0, 0, 0, 0, 0⟩ : Step) :: o').length c'], .arr 36 6 c' (((⟨2, 0, 0, 0, 0, 0⟩ : Step) :: o').map Step.row)]) (by decide) (by rw [hE]; exact (fun _ hi => absurd hi (Nat.not_lt_zero _))) (by intro _g; (repeat first | exact W0 | apply W1 rfl | exact L0 | apply L1 | exact V1 rfl | exact V2 rfl | exact V3 rfl rfl | exact V4 | exact V5 rfl | exact V3 rfl (by first | (simp; omega) | simp) | exact V1 (by first | (simp; omega) | simp) | exact V6 rfl rfl (by first | rfl | simp) (by simp) rfl | apply V7 | apply V8 | apply V9 | refine V1 ?_ | refine V3 rfl ?_); fail_if_success focus skip) (by intro _g; (repeat first | exact K0 | apply K1 rfl | apply K2 rfl rfl | apply K2 rfl (by simp) | apply K3 | exact L0 | apply L1 | exact V1 rfl | exact V2 rfl | exact V3 rfl rfl | exact V4 | exact V5 rfl | exact V3 rfl (by first | (simp; omega) | simp) | exact V1 (by first | (simp; omega) | simp) | exact V6 rfl rfl (by first | rfl | simp) (by simp) rfl | apply V7 | apply V8 | apply V9); fail_if_success focus skip) (fun _ => ⟨_, rfl, rfl⟩)
      · refine wk_of [some 1, some 4] (fun _ => [(5, .p 0 0 0)]) (fun _ => [.box [.o 1 0 ((⟨2, 0, 0, 0, 0, 0⟩ : Step) :: o').length c2], .arr 36 6 c2 (((⟨2, 0, 0, 0, 0, 0⟩ : Step) :: o').map Step.row)]) (by decide) (by rw [hE]; exact (fun _ hi => absurd hi (Nat.not_lt_zero _))) (by intro _g; (repeat first | exact W0 | apply W1 rfl | exact L0 | apply L1 | exact V1 rfl | exact V2 rfl | exact V3 rfl rfl | exact V4 | exact V5 rfl | exact V3 rfl (by first | (simp; omega) | simp) | exact V1 (by first | (simp; omega) | simp) | exact V6 rfl rfl (by first | rfl | simp) (by simp) rfl | apply V7 | apply V8 | apply V9 | refine V1 ?_ | refine V3 rfl ?_); fail_if_success focus skip) (by intro _g; (repeat first | exact K0 | apply K1 rfl | apply K2 rfl rfl | apply K2 rfl (by simp) | apply K3 | exact L0 | apply L1 | exact V1 rfl | exact V2 rfl | exact V3 rfl rfl | exact V4 | exact V5 rfl | exact V3 rfl (by first | (simp; omega) | simp) | exact V1 (by first | (simp; omega) | simp) | exact V6 rfl rfl (by first | rfl | simp) (by simp) rfl | apply V7 | apply V8 | apply V9); fail_if_success focus skip) (fun _ => ⟨_, rfl, rfl⟩)
    · obtain rfl : o' = [] := List.eq_nil_of_length_eq_zero (by omega)
      have hrl2 : relL l = [] := by rw [hrl, headR, if_pos rfl]
      rw [hrl2]
      repeat with_reducible first | apply S1 | apply S2 | apply S3 | apply S4 | apply S5 | apply S6 | apply S7 | apply S8 | refine S0 rfl ?_ | apply SA | apply SB | apply SC
      refine wk_of [some 1, some 2] (fun _ => [(5, .p 0 0 0)]) (fun _ => [.box [.o 1 0 ([] : List Step).length c'], .arr 36 6 c' (([] : List Step).map Step.row)]) (by decide) (by rw [hE]; first | exact (fun _ hi => absurd hi (Nat.not_lt_zero _)) | exact (fun i hi => by (have hi : i < 1 := hi); (have h0 : i = 0 := (by omega)); (subst h0); rfl)) (by intro _g; (repeat first | exact W0 | apply W1 rfl | exact L0 | apply L1 | exact V1 rfl | exact V2 rfl | exact V3 rfl rfl | exact V4 | exact V5 rfl | exact V3 rfl (by first | (simp; omega) | simp) | exact V1 (by first | (simp; omega) | simp) | exact V6 rfl rfl (by first | rfl | simp) (by simp) rfl | apply V7 | apply V8 | apply V9 | refine V1 ?_ | refine V3 rfl ?_); fail_if_success focus skip) (by intro _g; (repeat first | exact K0 | apply K1 rfl | apply K2 rfl rfl | apply K2 rfl (by simp) | apply K3 | exact L0 | apply L1 | exact V1 rfl | exact V2 rfl | exact V3 rfl rfl | exact V4 | exact V5 rfl | exact V3 rfl (by first | (simp; omega) | simp) | exact V1 (by first | (simp; omega) | simp) | exact V6 rfl rfl (by first | rfl | simp) (by simp) rfl | apply V7 | apply V8 | apply V9); fail_if_success focus skip) (fun _ => ?_)
      exact ⟨_, rfl, rfl⟩
  rintro F H ⟨c2, rfl, rfl⟩
  have hrb : (relL l).length ≤ 1000000 := by rw [hrl]; omega
  repeat with_reducible first | apply S1 | apply S2 | apply S3 | apply S4 | apply S5 | apply S6 | apply S7 | apply S8 | refine S0 rfl ?_ | apply SA | apply SB | apply SC
  refine aw_region ?_
  refine RA rfl rfl (by decide) (rd_loadn1 rfl Tk26 rfl (by first | exact CB rfl | exact CQ | exact CA rfl (by first | assumption | (rw [Nat.zero_add]; assumption))) (by (try simp only [nm, putL, Nat.reduceAdd, cellsOf, cvOf]) <;> rfl)) ?_
  refine al_wk (wk_of (K := fun F H => ∃ vv, F = [(21, .c (prog_r vv (relL l)))] ∧ H = []) [] (fun g => [(21, .c (prog_r (g (.o 1 0 (relL l).length c2)) (relL l)))]) (fun _ => _) (by decide) (by rw [hE]; exact (fun _ hi => absurd hi (Nat.not_lt_zero _))) (fun _g => .cons rfl (.frz rfl rfl (by rw [List.drop_zero, List.take_of_length_le (by simp)]) (by simp) rfl) .nil) (fun _ => .nil) (fun g => ⟨_, rfl, rfl⟩)) ?_
  rintro F H ⟨vv, rfl, rfl⟩
  refine al_ef rfl (ef_call0 false (fun _ => checked_a (relL l) vv (by omega)) rfl .fn rfl (by decide) Tc134 rfl (fun _ => C0 rfl) (by simp)) ?_
  rintro _ _ ⟨_, _, _, ⟨vb, rfl, rfl⟩, hF, hH⟩
  (try simp only [nsl, Nat.reduceAdd, Nat.reduceLT, Nat.reduceSub] at hF); (try simp only [nsl, Nat.reduceAdd, Nat.reduceLT, Nat.reduceSub] at hH); subst hF; subst hH
  refine M1 rfl ?_
  refine M1 rfl ?_
  refine M1 rfl ?_
  refine M1 rfl ?_
  refine al_nil ?_
  repeat with_reducible first | apply S1 | apply S2 | apply S3 | apply S4 | apply S5 | apply S6 | apply S7 | apply S8 | refine S0 rfl ?_ | apply SA | apply SB | apply SC
  exact aret_2 [] _ rfl rfl rfl rfl rfl (by decide) (fun _ hi => absurd hi (Nat.not_lt_zero _)) (fun _ => .nil) ⟨_, rfl, rfl⟩
end Go.Proofs.Ytpbedckdnoogpaa
