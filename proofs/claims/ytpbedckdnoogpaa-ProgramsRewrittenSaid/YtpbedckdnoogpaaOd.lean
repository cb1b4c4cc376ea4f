/- Short and ShortOf, by value. -/
import Derived.Test.YtpbedckdnoogpaaOc
set_option linter.unusedSimpArgs false
set_option linter.unusedVariables false
namespace Go.Proofs.Ytpbedckdnoogpaa
open Go Go.RowKit
set_option maxRecDepth 100000
def Mach.inn (m : Mach) : Prop := in64 m.x ∧ in64 m.y ∧ in64 m.z
theorem relS_in {r : Bool} {a b : Int} (h : in64 b) : in64 (relS r a b) := by
  unfold relS
  split
  · exact wrap_in _
  · exact h
theorem afterS_inn {m : Mach} {s : Step} (hm : m.inn) (hs : s.ok) : (afterS m s).inn := by
  obtain ⟨m1, m2, m3⟩ := hm
  obtain ⟨s1, s2, s3, s4, s5, s6⟩ := hs
  unfold afterS
  repeat' split
  all_goals first
    | exact ⟨m1, m2, m3⟩
    | exact ⟨relS_in s2, relS_in s3, m3⟩
    | exact ⟨m1, m2, relS_in s4⟩
theorem absStep_inn {m : Mach} {s : Step} (hm : m.inn) (hs : s.ok) : (absStep m s).ok := by
  obtain ⟨m1, m2, m3⟩ := hm
  obtain ⟨s1, s2, s3, s4, s5, s6⟩ := hs
  unfold absStep
  repeat' split
  · exact ⟨s1, m1, m2, s4, s5, s6⟩
  · exact ⟨s1, s2, s3, m3, s5, s6⟩
  · exact ⟨s1, s2, s3, s4, s5, s6⟩
theorem absFrom_inn : ∀ (l : List Step) (m : Mach), m.inn → (∀ s ∈ l, s.ok) → ∀ s ∈ absFrom m l, s.ok
  | [], _, _, _, s, hs => by simp [absFrom] at hs
  | t :: l, m, hm, hl, s, hs => by
    have ht := hl t (by simp)
    have h1 := afterS_inn hm ht
    unfold absFrom at hs
    split at hs
    · exact absFrom_inn l _ h1 (fun s h => hl s (by simp [h])) s hs
    · rcases List.mem_cons.1 hs with rfl | hs
      · exact absStep_inn h1 ht
      · exact absFrom_inn l _ h1 (fun s h => hl s (by simp [h])) s hs
theorem absS_inn {l : List Step} (hl : ∀ s ∈ l, s.ok) : ∀ s ∈ absS l, s.ok := absFrom_inn l _ (by simp [Mach.inn, in64]) hl
theorem short_a (l : List Step) (v : Value) (hl : l.length ≤ 1000000) (hok : ∀ s ∈ l, s.ok) : ACalls Try.prog 64 [.c (prog_r v l)] [] fun u H => ∃ v', u = .t [.c (prog_r v' (if absF l = 0 then shortS (absS l) else [])), .c (I (absF l))] ∧ H = [] := by
  have hal : (absS l).length ≤ l.length := absFrom_len l _
  have hab := absS_inn hok
  refine acalls_of (N := 24) Try.func64 rfl rfl (by simp) fun E hE => ?_
  repeat with_reducible first | apply S1 | apply S2 | apply S3 | apply S4 | apply S5 | apply S6 | apply S7 | apply S8 | refine S0 rfl ?_ | apply SA | apply SB | apply SC
  refine aw_region ?_
  refine M1 rfl ?_
  refine M1 rfl ?_
  refine al_nil ?_
  repeat with_reducible first | apply S1 | apply S2 | apply S3 | apply S4 | apply S5 | apply S6 | apply S7 | apply S8 | refine S0 rfl ?_ | apply SA | apply SB | apply SC
  refine aw_region ?_
  refine M1 rfl ?_
  refine al_ef rfl (ef_call0 false (fun _ => absolutex_a l v hl hok) rfl .fn rfl (by decide) Tc62 rfl (fun _ => C0 rfl) (by simp)) ?_
  rintro _ _ ⟨_, _, _, ⟨va, rfl, rfl⟩, hF, hH⟩
  (try simp only [nsl, Nat.reduceAdd, Nat.reduceLT, Nat.reduceSub] at hF); (try simp only [nsl, Nat.reduceAdd, Nat.reduceLT, Nat.reduceSub] at hH); subst hF; subst hH
  refine M1 rfl ?_
  refine M1 rfl ?_
  refine M1 rfl ?_
  refine M1 rfl ?_
  refine M1 rfl ?_
  refine al_nil ?_
  repeat with_reducible first | apply S1 | apply S2 | apply S3 | apply S4 | apply S5 | apply S6 | apply S7 | apply S8 | refine S0 rfl ?_ | apply SA | apply SB | apply SC
  refine aw_region ?_
  refine M1 rfl ?_
  first | refine RA rfl rfl (by decide) (rd_neq_t rfl rfl rfl (by omega)) ?_ | refine RA rfl rfl (by decide) (rd_neq_f rfl rfl rfl (by omega)) ?_ | refine RA rfl rfl (by decide) (rd_neq rfl rfl rfl) ?_
  refine al_nil ?_
  repeat with_reducible first | apply S1 | apply S2 | apply S3 | apply S4 | apply S5 | apply S6 | apply S7 | apply S8 | refine S0 rfl ?_ | apply SA | apply SB | apply SC
  refine aw_if rfl (fun hne => ?_) (fun heq => ?_)
  · repeat with_reducible first | apply S1 | apply S2 | apply S3 | apply S4 | apply S5 | apply S6 | apply S7 | apply S8 | refine S0 rfl ?_ | apply SA | apply SB | apply SC
    refine aw_region ?_
    refine M1 rfl ?_
    refine M1 rfl ?_
    refine M1 rfl ?_
    refine al_nil ?_
    repeat with_reducible first | apply S1 | apply S2 | apply S3 | apply S4 | apply S5 | apply S6 | apply S7 | apply S8 | refine S0 rfl ?_ | apply SA | apply SB | apply SC
    exact aret_2 [] _ rfl rfl rfl rfl rfl (by decide) (fun _ hi => absurd hi (Nat.not_lt_zero _)) (fun _ => .nil) ⟨_, by rw [if_neg hne]; rfl, rfl⟩
  have h0 : absF l = 0 := by omega
  rw [if_pos h0]
  repeat with_reducible first | apply S1 | apply S2 | apply S3 | apply S4 | apply S5 | apply S6 | apply S7 | apply S8 | refine S0 rfl ?_ | apply SA | apply SB | apply SC
  refine aw_loopw (fun m F H => ∃ (out : List Step) (vo : Value), m = out.length ∧ ShortJ (absS l) out ∧ F = [(4, .c (prog_r vo out))] ∧ H = []) ?_ ?_
  · refine wk_of [] (fun _ => [(4, .c (prog_r va (absS l)))]) (fun _ => _) (by decide) (by rw [hE]; first | exact (fun _ hi => absurd hi (Nat.not_lt_zero _)) | exact (fun i hi => by (have hi : i < 1 := hi); (have h0 : i = 0 := (by omega)); (subst h0); rfl)) (by intro _g; (repeat first | exact W0 | apply W1 rfl | exact L0 | apply L1 | exact V1 rfl | exact V2 rfl | exact V3 rfl rfl | exact V4 | exact V5 rfl | exact V3 rfl (by first | (simp; omega) | simp) | exact V1 (by first | (simp; omega) | simp) | exact V6 rfl rfl (by first | rfl | simp) (by simp) rfl | apply V7 | apply V8 | apply V9 | refine V1 ?_ | refine V3 rfl ?_); fail_if_success focus skip) (fun _ => .nil) (fun _ => ?_)
    exact ⟨_, absS l, va, rfl, shortJ_zero _, rfl, rfl⟩
  rintro m F H ⟨out, vo, hm, hJ, rfl, rfl⟩
  have hoo : ∀ s ∈ out, s.ok := fun s hs => hab s (hJ.2.1 s hs)
  have hol := hJ.2.2
  have e1 : (out.map Step.row).length = out.length := by simp
  have e2 : ((shortF out).map Step.row).length = (shortF out).length := by simp
  repeat with_reducible first | apply S1 | apply S2 | apply S3 | apply S4 | apply S5 | apply S6 | apply S7 | apply S8 | refine S0 rfl ?_ | apply SA | apply SB | apply SC
  refine aw_region ?_
  refine M1 rfl ?_
  refine al_ef rfl (ef_call0 false (fun _ => shorter_a out vo (by omega) hoo) rfl .fn rfl (by decide) Tc141 rfl (fun _ => C0 rfl) (by simp)) ?_
  rintro _ _ ⟨_, _, _, ⟨vs, rfl, rfl⟩, hF, hH⟩
  (try simp only [nsl, Nat.reduceAdd, Nat.reduceLT, Nat.reduceSub] at hF); (try simp only [nsl, Nat.reduceAdd, Nat.reduceLT, Nat.reduceSub] at hH); subst hF; subst hH
  refine M1 rfl ?_
  refine al_nil ?_
  repeat with_reducible first | apply S1 | apply S2 | apply S3 | apply S4 | apply S5 | apply S6 | apply S7 | apply S8 | refine S0 rfl ?_ | apply SA | apply SB | apply SC
  refine aw_region ?_
  refine M1 rfl ?_
  refine RA rfl rfl (by decide) (rd_lx rfl Te26 rfl) ?_
  refine M1 rfl ?_
  refine RA rfl rfl (by decide) (rd_lx rfl Te26 rfl) ?_
  first | refine RA rfl rfl (by decide) (rd_eql_t rfl rfl rfl (by omega)) ?_ | refine RA rfl rfl (by decide) (rd_eql_f rfl rfl rfl (by omega)) ?_ | refine RA rfl rfl (by decide) (rd_eql rfl rfl rfl) ?_
  refine al_nil ?_
  repeat with_reducible first | apply S1 | apply S2 | apply S3 | apply S4 | apply S5 | apply S6 | apply S7 | apply S8 | refine S0 rfl ?_ | apply SA | apply SB | apply SC
  refine aw_if rfl (fun he => ?_) (fun hn => ?_)
  · have hS := shortJ_end hJ (by omega)
    repeat with_reducible first | apply S1 | apply S2 | apply S3 | apply S4 | apply S5 | apply S6 | apply S7 | apply S8 | refine S0 rfl ?_ | apply SA | apply SB | apply SC
    refine aw_region ?_
    refine M1 rfl ?_
    refine M1 rfl ?_
    refine M1 rfl ?_
    refine al_nil ?_
    repeat with_reducible first | apply S1 | apply S2 | apply S3 | apply S4 | apply S5 | apply S6 | apply S7 | apply S8 | refine S0 rfl ?_ | apply SA | apply SB | apply SC
    exact aret_2 [] _ rfl rfl rfl rfl rfl (by decide) (fun _ hi => absurd hi (Nat.not_lt_zero _)) (fun _ => .nil) ⟨vo, by rw [if_pos h0, h0, ← hS], rfl⟩
  · obtain ⟨hJ2, hlt⟩ := shortJ_next hJ (by omega)
    repeat with_reducible first | apply S1 | apply S2 | apply S3 | apply S4 | apply S5 | apply S6 | apply S7 | apply S8 | refine S0 rfl ?_ | apply SA | apply SB | apply SC
    refine aw_region ?_
    refine M1 rfl ?_
    refine M1 rfl ?_
    refine al_nil ?_
    repeat with_reducible first | apply S1 | apply S2 | apply S3 | apply S4 | apply S5 | apply S6 | apply S7 | apply S8 | refine S0 rfl ?_ | apply SA | apply SB | apply SC
    refine wk_of [] (fun _ => [(4, .c (prog_r vs (shortF out)))]) (fun _ => _) (by decide) (by rw [hE]; first | exact (fun _ hi => absurd hi (Nat.not_lt_zero _)) | exact (fun i hi => by (have hi : i < 1 := hi); (have h0 : i = 0 := (by omega)); (subst h0); rfl)) (by intro _g; (repeat first | exact W0 | apply W1 rfl | exact L0 | apply L1 | exact V1 rfl | exact V2 rfl | exact V3 rfl rfl | exact V4 | exact V5 rfl | exact V3 rfl (by first | (simp; omega) | simp) | exact V1 (by first | (simp; omega) | simp) | exact V6 rfl rfl (by first | rfl | simp) (by simp) rfl | apply V7 | apply V8 | apply V9 | refine V1 ?_ | refine V3 rfl ?_); fail_if_success focus skip) (fun _ => .nil) (fun _ => ?_)
    exact ⟨(shortF out).length, by omega, shortF out, vs, rfl, hJ2, rfl, rfl⟩
theorem qidle_a (m : Mach) (s : Step) (hso : s.ok) : ACalls Try.prog 142 [.a (m.row.map .c), .a (s.row.map .c)] [] fun u H => u = .c (B (decide ((afterS m s).eq m))) ∧ H = [] := by
  refine acalls_of (N := 10) Try.func142 rfl rfl (by simp) fun E hE => ?_
  repeat with_reducible first | apply S1 | apply S2 | apply S3 | apply S4 | apply S5 | apply S6 | apply S7 | apply S8 | refine S0 rfl ?_ | apply SA | apply SB | apply SC
  refine aw_region ?_
  refine EA rfl (ef_boxn rfl rfl (by decide) rfl (by (try simp only [nm, putL, Nat.reduceAdd, cellsOf, cvOf]) <;> rfl) rfl (by (try simp only [nm, putL, Nat.reduceAdd, cellsOf, cvOf]) <;> rfl) (by (try simp only [nm, putL, Nat.reduceAdd, cellsOf, cvOf]) <;> rfl)) ?_
  refine EA rfl (ef_boxn rfl rfl (by decide) rfl (by (try simp only [nm, putL, Nat.reduceAdd, cellsOf, cvOf]) <;> rfl) rfl (by (try simp only [nm, putL, Nat.reduceAdd, cellsOf, cvOf]) <;> rfl) (by (try simp only [nm, putL, Nat.reduceAdd, cellsOf, cvOf]) <;> rfl)) ?_
  refine M1 rfl ?_
  refine al_nil ?_
  repeat with_reducible first | apply S1 | apply S2 | apply S3 | apply S4 | apply S5 | apply S6 | apply S7 | apply S8 | refine S0 rfl ?_ | apply SA | apply SB | apply SC
  refine aw_regionT [(0, none), (1, none), (3, none), (2, some [3]), (4, none), (5, none)] hMixed (by kernel_rfl) ?_
  refine RT rfl rfl rfl (by decide) (rd_loadn rfl Tk42 rfl (by first | exact CB rfl | exact CQ | exact CA rfl (by first | assumption | (rw [Nat.zero_add]; assumption))) (by (try simp only [nm, putL, Nat.reduceAdd, cellsOf, cvOf]) <;> rfl) (by simp)) ?_
  refine RT rfl rfl rfl (by decide) (rd_loadn rfl Tk36 rfl (by first | exact CB rfl | exact CQ | exact CA rfl (by first | assumption | (rw [Nat.zero_add]; assumption))) (by (try simp only [nm, putL, Nat.reduceAdd, cellsOf, cvOf]) <;> rfl) (by simp)) ?_
  refine RT rfl rfl rfl (by decide) (rd_loadn rfl Tk42 rfl (by first | exact CB rfl | exact CQ | exact CA rfl (by first | assumption | (rw [Nat.zero_add]; assumption))) (by (try simp only [nm, putL, Nat.reduceAdd, cellsOf, cvOf]) <;> rfl) (by simp)) ?_
  refine at_ef rfl rfl (ef_call0 false (fun _ => qafter_a m s hso) rfl .fn rfl (by decide) Tc97 rfl (fun _ => C0 rfl) (by simp)) ?_
  rintro _ _ ⟨_, _, _, ⟨rfl, rfl⟩, hF, hH⟩
  (try simp only [nsl, Nat.reduceAdd, Nat.reduceLT, Nat.reduceSub] at hF); (try simp only [nsl, Nat.reduceAdd, Nat.reduceLT, Nat.reduceSub] at hH); subst hF; subst hH
  refine ⟨ag_cons (by first | exact ag_rd rfl rfl rfl (rd_loadn rfl Tk42 rfl (by first | exact CB rfl | exact CQ | exact CA rfl (by first | assumption | (rw [Nat.zero_add]; assumption))) (by (try simp only [nm, putL, Nat.reduceAdd, cellsOf, cvOf]) <;> rfl) (by simp)) rfl) (ag_none), ?_⟩
  refine RT rfl rfl rfl (by decide) (rd_eqla42 rfl rfl rfl) ?_
  refine M2 rfl rfl ?_
  refine at_nil ?_
  repeat with_reducible first | apply S1 | apply S2 | apply S3 | apply S4 | apply S5 | apply S6 | apply S7 | apply S8 | refine S0 rfl ?_ | apply SA | apply SB | apply SC
  exact aret_1 [] _ rfl rfl rfl (by decide) (fun _ hi => absurd hi (Nat.not_lt_zero _)) (fun _ => .nil) ⟨rfl, rfl⟩
set_option maxHeartbeats 800000 in
theorem qshort_a (l : List Step) (v : Value) (hl : l.length ≤ 1000000) (hok : ∀ s ∈ l, s.ok) : ACalls Try.prog 67 [.c (prog_r v l)] [] fun u H => ∃ v', u = .t [.c (prog_r v' (if progF (absS l) = 0 then shortS (absS l) else [])), .c (I (progF (absS l)))] ∧ H = [] := by
  have hal : (absS l).length ≤ l.length := absFrom_len l _
  have hab := absS_inn hok
  refine acalls_of (N := 94) Try.func67 rfl rfl (by simp) fun E hE => ?_
  repeat with_reducible first | apply S1 | apply S2 | apply S3 | apply S4 | apply S5 | apply S6 | apply S7 | apply S8 | refine S0 rfl ?_ | apply SA | apply SB | apply SC
  refine aw_region ?_
  refine M1 rfl ?_
  refine M1 rfl ?_
  refine al_nil ?_
  repeat with_reducible first | apply S1 | apply S2 | apply S3 | apply S4 | apply S5 | apply S6 | apply S7 | apply S8 | refine S0 rfl ?_ | apply SA | apply SB | apply SC
  refine aw_region ?_
  refine M1 rfl ?_
  refine al_ef rfl (ef_call0 false (fun _ => qabsof_a l v hl hok) rfl .fn rfl (by decide) Tc12 rfl (fun _ => C0 rfl) (by simp)) ?_
  rintro _ _ ⟨_, _, _, ⟨va, rfl, rfl⟩, hF, hH⟩
  (try simp only [nsl, Nat.reduceAdd, Nat.reduceLT, Nat.reduceSub] at hF); (try simp only [nsl, Nat.reduceAdd, Nat.reduceLT, Nat.reduceSub] at hH); subst hF; subst hH
  refine M1 rfl ?_
  refine M1 rfl ?_
  refine M1 rfl ?_
  refine M1 rfl ?_
  refine M1 rfl ?_
  refine al_nil ?_
  repeat with_reducible first | apply S1 | apply S2 | apply S3 | apply S4 | apply S5 | apply S6 | apply S7 | apply S8 | refine S0 rfl ?_ | apply SA | apply SB | apply SC
  refine aw_region ?_
  refine M1 rfl ?_
  first | refine RA rfl rfl (by decide) (rd_neq_t rfl rfl rfl (by omega)) ?_ | refine RA rfl rfl (by decide) (rd_neq_f rfl rfl rfl (by omega)) ?_ | refine RA rfl rfl (by decide) (rd_neq rfl rfl rfl) ?_
  refine al_nil ?_
  repeat with_reducible first | apply S1 | apply S2 | apply S3 | apply S4 | apply S5 | apply S6 | apply S7 | apply S8 | refine S0 rfl ?_ | apply SA | apply SB | apply SC
  refine aw_if rfl (fun hne => ?_) (fun heq => ?_)
  · repeat with_reducible first | apply S1 | apply S2 | apply S3 | apply S4 | apply S5 | apply S6 | apply S7 | apply S8 | refine S0 rfl ?_ | apply SA | apply SB | apply SC
    refine aw_region ?_
    refine M1 rfl ?_
    refine M1 rfl ?_
    refine M1 rfl ?_
    refine al_nil ?_
    repeat with_reducible first | apply S1 | apply S2 | apply S3 | apply S4 | apply S5 | apply S6 | apply S7 | apply S8 | refine S0 rfl ?_ | apply SA | apply SB | apply SC
    exact aret_2 [] _ rfl rfl rfl rfl rfl (by decide) (fun _ hi => absurd hi (Nat.not_lt_zero _)) (fun _ => .nil) ⟨_, by rw [if_neg hne]; rfl, rfl⟩
  have h0 : progF (absS l) = 0 := by omega
  have hfa := prog_faults h0
  rw [if_pos h0]
  repeat with_reducible first | apply S1 | apply S2 | apply S3 | apply S4 | apply S5 | apply S6 | apply S7 | apply S8 | refine S0 rfl ?_ | apply SA | apply SB | apply SC
  refine aw_loopw (fun m F H => ∃ (out : List Step) (vo : Value), m = out.length ∧ ShortJ (absS l) out ∧ F = [(4, .c (prog_r vo out))] ∧ H = []) ?_ ?_
  · refine wk_of [] (fun _ => [(4, .c (prog_r va (absS l)))]) (fun _ => _) (by decide) (by rw [hE]; first | exact (fun _ hi => absurd hi (Nat.not_lt_zero _)) | exact (fun i hi => by (have hi : i < 1 := hi); (have h0 : i = 0 := (by omega)); (subst h0); rfl)) (by intro _g; (repeat first | exact W0 | apply W1 rfl | exact L0 | apply L1 | exact V1 rfl | exact V2 rfl | exact V3 rfl rfl | exact V4 | exact V5 rfl | exact V3 rfl (by first | (simp; omega) | simp) | exact V1 (by first | (simp; omega) | simp) | exact V6 rfl rfl (by first | rfl | simp) (by simp) rfl | apply V7 | apply V8 | apply V9 | refine V1 ?_ | refine V3 rfl ?_); fail_if_success focus skip) (fun _ => .nil) (fun _ => ?_)
    exact ⟨_, absS l, va, rfl, shortJ_zero _, rfl, rfl⟩
  rintro m F H ⟨out, vo, hm, hJ, rfl, rfl⟩
  have hoo : ∀ s ∈ out, s.ok := fun s hs => hab s (hJ.2.1 s hs)
  have hol := hJ.2.2
  have e1 : (out.map Step.row).length = out.length := by simp
  repeat with_reducible first | apply S1 | apply S2 | apply S3 | apply S4 | apply S5 | apply S6 | apply S7 | apply S8 | refine S0 rfl ?_ | apply SA | apply SB | apply SC
  refine aw_region ?_
  refine M1 rfl ?_
  refine al_nil ?_
  repeat with_reducible first | apply S1 | apply S2 | apply S3 | apply S4 | apply S5 | apply S6 | apply S7 | apply S8 | refine S0 rfl ?_ | apply SA | apply SB | apply SC
  refine aw_region ?_
  refine EA rfl (ef_allocn rfl rfl (by decide) Tz42 rfl rfl (by (try simp only [nm, putL, Nat.reduceAdd, cellsOf, cvOf]) <;> rfl) (by (try simp only [nm, putL, Nat.reduceAdd, cellsOf, cvOf]) <;> rfl)) ?_
  refine al_nil ?_
  repeat with_reducible first | apply S1 | apply S2 | apply S3 | apply S4 | apply S5 | apply S6 | apply S7 | apply S8 | refine S0 rfl ?_ | apply SA | apply SB | apply SC
  refine aw_region ?_
  refine M1 rfl ?_
  refine RA rfl rfl (by decide) (rd_lx rfl Te26 rfl) ?_
  refine M1 rfl ?_
  refine al_nil ?_
  repeat with_reducible first | apply S1 | apply S2 | apply S3 | apply S4 | apply S5 | apply S6 | apply S7 | apply S8 | refine S0 rfl ?_ | apply SA | apply SB | apply SC
  refine aw_loopw (fun m1 F H => ∃ (k c : Nat) (o : List Step), m1 + k = out.length ∧ keepJ out k o ∧ F = [(4, .c (prog_r vo out)), (6, .o 0 0 o.length c), (7, .p 1 0 0), (21, .c (prog_r vo out)), (22, .c (I (out.map Step.row).length)), (23, .c (I k))] ∧ H = [.arr 36 6 c (o.map Step.row), .box ((lastS (out.take k)).row.map .c)]) ?_ ?_
  · refine wk_of [none, some 0] (fun _ => [(4, .c (prog_r vo out)), (6, .o 0 0 ([] : List Step).length 0), (7, .p 1 0 0), (21, .c (prog_r vo out)), (22, .c (I (out.map Step.row).length)), (23, .c (I (0 : Nat)))]) (fun _ => [.arr 36 6 0 (([] : List Step).map Step.row), .box ((lastS (out.take 0)).row.map .c)]) (by decide) (by rw [hE]; first | exact (fun _ hi => absurd hi (Nat.not_lt_zero _)) | exact (fun i hi => by (have hi : i < 1 := hi); (have h0 : i = 0 := (by omega)); (subst h0); rfl)) (by intro _g; (repeat first | exact W0 | apply W1 rfl | exact L0 | apply L1 | exact V1 rfl | exact V2 rfl | exact V3 rfl rfl | exact V4 | exact V5 rfl | exact V3 rfl (by first | (simp; omega) | simp) | exact V1 (by first | (simp; omega) | simp) | exact V6 rfl rfl (by first | rfl | simp) (by simp) rfl | apply V7 | apply V8 | apply V9 | refine V1 ?_ | refine V3 rfl ?_); fail_if_success focus skip) (by intro _g; (repeat first | exact K0 | apply K1 rfl | apply K2 rfl rfl | apply K2 rfl (by simp) | apply K3 | exact L0 | apply L1 | exact V1 rfl | exact V2 rfl | exact V3 rfl rfl | exact V4 | exact V5 rfl | exact V3 rfl (by first | (simp; omega) | simp) | exact V1 (by first | (simp; omega) | simp) | exact V6 rfl rfl (by first | rfl | simp) (by simp) rfl | apply V7 | apply V8 | apply V9); fail_if_success focus skip) (fun _ => ?_)
    exact ⟨out.length, 0, 0, [], by omega, ⟨rfl, Nat.le_refl _⟩, rfl, rfl⟩
  rintro m1 F H ⟨k, c, o, hk, hJ1, rfl, rfl⟩
  have hop := hJ1.2
  repeat with_reducible first | apply S1 | apply S2 | apply S3 | apply S4 | apply S5 | apply S6 | apply S7 | apply S8 | refine S0 rfl ?_ | apply SA | apply SB | apply SC
  refine aw_region ?_
  first | refine RA rfl rfl (by decide) (rd_lss_t rfl rfl rfl (by omega)) ?_ | refine RA rfl rfl (by decide) (rd_lss_f rfl rfl rfl (by omega)) ?_ | refine RA rfl rfl (by decide) (rd_lss rfl rfl rfl) ?_
  refine al_nil ?_
  repeat with_reducible first | apply S1 | apply S2 | apply S3 | apply S4 | apply S5 | apply S6 | apply S7 | apply S8 | refine S0 rfl ?_ | apply SA | apply SB | apply SC
  refine aw_if rfl (fun hlt => ?_) (fun hge => ?_)
  · obtain ⟨s, hs⟩ : ∃ x, out[k]? = some x := ⟨_, List.getElem?_eq_getElem (by omega)⟩
    have r1 : (out.map Step.row)[k]? = some s.row := by rw [List.getElem?_map, hs]; rfl
    have hsm := List.mem_of_getElem? hs
    have hso := hoo s hsm
    have hks := keep_same (m := lastS (out.take k)) (hfa s (hJ.2.1 s hsm)) last_fl
    obtain ⟨ib, hib⟩ : ∃ b, decide ((afterS (lastS (out.take k)) s).eq (lastS (out.take k))) = b := ⟨_, rfl⟩
    rw [keepD, hib] at hks
    repeat with_reducible first | apply S1 | apply S2 | apply S3 | apply S4 | apply S5 | apply S6 | apply S7 | apply S8 | refine S0 rfl ?_ | apply SA | apply SB | apply SC
    refine aw_region ?_
    first | refine RA rfl rfl (by decide) (rd_index rfl Te26 rfl rfl rfl (by first | rfl | omega) (by omega)) ?_ | refine RA rfl rfl (by decide) (rd_indexq rfl Te26 rfl rfl (by first | rfl | omega) (by assumption) rfl) ?_
    refine RA rfl rfl (by decide) (rd_loadn rfl Tk36 rfl (by first | exact CB rfl | exact CQ | exact CA rfl (by first | assumption | (rw [Nat.zero_add]; assumption))) (by (try simp only [nm, putL, Nat.reduceAdd, cellsOf, cvOf]) <;> rfl) (by simp)) ?_
    refine EA rfl (ef_allocn rfl rfl (by decide) Tz36 rfl rfl (by (try simp only [nm, putL, Nat.reduceAdd, cellsOf, cvOf]) <;> rfl) (by (try simp only [nm, putL, Nat.reduceAdd, cellsOf, cvOf]) <;> rfl)) ?_
    first | refine EA rfl (ef_storen rfl rfl rfl rfl rfl Ts36 rfl (by simp) rfl (by (try simp only [nm, putL, Nat.reduceAdd, cellsOf, cvOf]) <;> rfl) (by (try simp only [nm, putL, Nat.reduceAdd, cellsOf, cvOf]) <;> rfl)) ?_ | refine EA rfl (ef_storern rfl rfl rfl rfl (by first | assumption | (rw [Nat.zero_add]; assumption)) rfl rfl Ts36 rfl (by simp) rfl (by (try simp only [nm, putL, Nat.reduceAdd, cellsOf, cvOf]) <;> rfl) rfl) ?_
    refine al_nil ?_
    repeat with_reducible first | apply S1 | apply S2 | apply S3 | apply S4 | apply S5 | apply S6 | apply S7 | apply S8 | refine S0 rfl ?_ | apply SA | apply SB | apply SC
    cases ib
    · repeat with_reducible first | apply S1 | apply S2 | apply S3 | apply S4 | apply S5 | apply S6 | apply S7 | apply S8 | refine S0 rfl ?_ | apply SA | apply SB | apply SC
      refine aw_region ?_
      refine RA rfl rfl (by decide) (rd_loadn rfl Tk42 rfl (by first | exact CB rfl | exact CQ | exact CA rfl (by first | assumption | (rw [Nat.zero_add]; assumption))) (by (try simp only [nm, putL, Nat.reduceAdd, cellsOf, cvOf]) <;> rfl) (by simp)) ?_
      refine RA rfl rfl (by decide) (rd_loadn rfl Tk36 rfl (by first | exact CB rfl | exact CQ | exact CA rfl (by first | assumption | (rw [Nat.zero_add]; assumption))) (by (try simp only [nm, putL, Nat.reduceAdd, cellsOf, cvOf]) <;> rfl) (by simp)) ?_
      refine al_ef rfl (ef_call0 false (fun _ => qidle_a (lastS (out.take k)) s hso) rfl .fn rfl (by decide) Tc142 rfl (fun _ => C0 rfl) (by simp)) ?_
      rintro _ _ ⟨_, _, _, ⟨rfl, rfl⟩, hF, hH⟩
      rw [hib] at hF
      (try simp only [nsl, Nat.reduceAdd, Nat.reduceLT, Nat.reduceSub] at hF); (try simp only [nsl, Nat.reduceAdd, Nat.reduceLT, Nat.reduceSub] at hH); subst hF; subst hH
      refine RA rfl rfl (by decide) (rd_not rfl rfl) ?_
      refine M1 rfl ?_
      first | (refine G1 rfl ?_; (refine RA rfl rfl (by decide) (rd_fx rfl Tf36_0 rfl) ?_)) | refine G2 rfl rfl (by decide) ?_
      first | (refine G1 rfl ?_; (refine RA rfl rfl (by decide) (rd_loadn1 rfl Tk3 rfl (by first | exact CB rfl | exact CQ | exact CA rfl (by first | assumption | (rw [Nat.zero_add]; assumption))) (by (try simp only [nm, putL, Nat.reduceAdd, cellsOf, cvOf]) <;> rfl)) ?_)) | refine G2 rfl rfl (by decide) ?_
      first | (refine G1 rfl ?_; (first | refine RA rfl rfl (by decide) (rd_eql_t rfl rfl rfl (by omega)) ?_ | refine RA rfl rfl (by decide) (rd_eql_f rfl rfl rfl (by omega)) ?_ | refine RA rfl rfl (by decide) (rd_eql rfl rfl rfl) ?_)) | refine G2 rfl rfl (by decide) ?_
      first | (refine G1 rfl ?_; refine M1 rfl ?_) | refine G2 rfl rfl (by decide) ?_
      first | (refine G1 rfl ?_; (refine RA rfl rfl (by decide) (rd_fx rfl Tf36_5 rfl) ?_)) | refine G2 rfl rfl (by decide) ?_
      first | (refine G1 rfl ?_; (refine RA rfl rfl (by decide) (rd_loadn1 rfl Tk3 rfl (by first | exact CB rfl | exact CQ | exact CA rfl (by first | assumption | (rw [Nat.zero_add]; assumption))) (by (try simp only [nm, putL, Nat.reduceAdd, cellsOf, cvOf]) <;> rfl)) ?_)) | refine G2 rfl rfl (by decide) ?_
      first | (refine G1 rfl ?_; (first | refine RA rfl rfl (by decide) (rd_gtr_t rfl rfl rfl (by omega)) ?_ | refine RA rfl rfl (by decide) (rd_gtr_f rfl rfl rfl (by omega)) ?_ | refine RA rfl rfl (by decide) (rd_gtr rfl rfl rfl) ?_)) | refine G2 rfl rfl (by decide) ?_
      first | (refine G1 rfl ?_; refine M1 rfl ?_) | refine G2 rfl rfl (by decide) ?_
      refine M1 rfl ?_
      refine al_nil ?_
      repeat with_reducible first | apply S1 | apply S2 | apply S3 | apply S4 | apply S5 | apply S6 | apply S7 | apply S8 | refine S0 rfl ?_ | apply SA | apply SB | apply SC
      refine aw_cond_t rfl ?_
      repeat with_reducible first | apply S1 | apply S2 | apply S3 | apply S4 | apply S5 | apply S6 | apply S7 | apply S8 | refine S0 rfl ?_ | apply SA | apply SB | apply SC
      refine aw_region ?_
      refine M1 rfl ?_
      refine RA rfl rfl (by decide) (rd_loadn rfl Tk36 rfl (by first | exact CB rfl | exact CQ | exact CA rfl (by first | assumption | (rw [Nat.zero_add]; assumption))) (by (try simp only [nm, putL, Nat.reduceAdd, cellsOf, cvOf]) <;> rfl) (by simp)) ?_
      refine EA rfl (ef_buildSlicen rfl rfl (by decide) Te26 (.cons rfl rfl (.nil _)) rfl Tz36 rfl rfl (by simp) (by simp) (by (try simp only [nm, putL, Nat.reduceAdd, cellsOf, cvOf]) <;> rfl) (by (try simp only [nm, putL, Nat.reduceAdd, cellsOf, cvOf]) <;> rfl)) ?_
      refine al_ef rfl (ef_appn rfl rfl (by decide) Ta26 rfl rfl (by first | rfl | simp | (simp; omega)) rfl (by first | exact Src.own rfl (by (try simp only [nm, putL, Nat.reduceAdd, cellsOf, cvOf]) <;> rfl) (by first | rfl | simp | (simp; omega)) | exact Src.ro (by simp) (by simp [CV.one, Value.oneCell'])) (by (try simp only [nm, putL, Nat.reduceAdd, cellsOf, cvOf]) <;> rfl) (by omega) (fun _ _ => rfl) (by intro g c2; simp only [List.map_cons, List.map_nil, killO, killV, AV.has, AV.hasL, List.contains_cons, List.contains_nil, Nat.reduceBEq, Bool.or_false, Bool.false_or, Bool.false_eq_true, beq_self_eq_true, if_false, if_true, List.set_cons_zero, List.set_cons_succ, List.nil_append]; rfl)) ?_
      rintro _ _ ⟨_, cc, hcc, rfl, rfl⟩
      refine M1 rfl ?_
      refine al_nil ?_
      repeat with_reducible first | apply S1 | apply S2 | apply S3 | apply S4 | apply S5 | apply S6 | apply S7 | apply S8 | refine S0 rfl ?_ | apply SA | apply SB | apply SC
      refine aw_region ?_
      refine RA rfl rfl (by decide) (rd_loadn rfl Tk42 rfl (by first | exact CB rfl | exact CQ | exact CA rfl (by first | assumption | (rw [Nat.zero_add]; assumption))) (by (try simp only [nm, putL, Nat.reduceAdd, cellsOf, cvOf]) <;> rfl) (by simp)) ?_
      refine RA rfl rfl (by decide) (rd_loadn rfl Tk36 rfl (by first | exact CB rfl | exact CQ | exact CA rfl (by first | assumption | (rw [Nat.zero_add]; assumption))) (by (try simp only [nm, putL, Nat.reduceAdd, cellsOf, cvOf]) <;> rfl) (by simp)) ?_
      refine al_ef rfl (ef_call0 false (fun _ => qafter_a (lastS (out.take k)) s hso) rfl .fn rfl (by decide) Tc97 rfl (fun _ => C0 rfl) (by simp)) ?_
      rintro _ _ ⟨_, _, _, ⟨rfl, rfl⟩, hF, hH⟩
      (try simp only [nsl, Nat.reduceAdd, Nat.reduceLT, Nat.reduceSub] at hF); (try simp only [nsl, Nat.reduceAdd, Nat.reduceLT, Nat.reduceSub] at hH); subst hF; subst hH
      first | refine EA rfl (ef_storen rfl rfl rfl rfl rfl Ts42 rfl (by simp) rfl (by (try simp only [nm, putL, Nat.reduceAdd, cellsOf, cvOf]) <;> rfl) (by (try simp only [nm, putL, Nat.reduceAdd, cellsOf, cvOf]) <;> rfl)) ?_ | refine EA rfl (ef_storern rfl rfl rfl rfl (by first | assumption | (rw [Nat.zero_add]; assumption)) rfl rfl Ts42 rfl (by simp) rfl (by (try simp only [nm, putL, Nat.reduceAdd, cellsOf, cvOf]) <;> rfl) rfl) ?_
      refine al_nil ?_
      repeat with_reducible first | apply S1 | apply S2 | apply S3 | apply S4 | apply S5 | apply S6 | apply S7 | apply S8 | refine S0 rfl ?_ | apply SA | apply SB | apply SC
      refine aw_region ?_
      first | refine RA rfl rfl (by decide) (rd_addn rfl rfl rfl (by omega)) ?_ | refine RA rfl rfl (by decide) (rd_add rfl rfl rfl) ?_
      refine M1 rfl ?_
      refine al_nil ?_
      repeat with_reducible first | apply S1 | apply S2 | apply S3 | apply S4 | apply S5 | apply S6 | apply S7 | apply S8 | refine S0 rfl ?_ | apply SA | apply SB | apply SC
      refine wk_of [some 0, some 1] (fun _ => [(4, .c (prog_r vo out)), (6, .o 0 0 (o ++ [s]).length cc), (7, .p 1 0 0), (21, .c (prog_r vo out)), (22, .c (I (out.map Step.row).length)), (23, .c (I (k + 1 : Nat)))]) (fun _ => [.arr 36 6 cc ((o ++ [s]).map Step.row), .box ((afterS (lastS (out.take k)) s).row.map .c)]) (by decide) (by rw [hE]; first | exact (fun _ hi => absurd hi (Nat.not_lt_zero _)) | exact (fun i hi => by (have hi : i < 1 := hi); (have h0 : i = 0 := (by omega)); (subst h0); rfl)) (by intro _g; (repeat first | exact W0 | apply W1 rfl | exact L0 | apply L1 | exact V1 rfl | exact V2 rfl | exact V3 rfl rfl | exact V4 | exact V5 rfl | exact V3 rfl (by first | (simp; omega) | simp) | exact V1 (by first | (simp; omega) | simp) | exact V6 rfl rfl (by first | rfl | simp) (by simp) rfl | apply V7 | apply V8 | apply V9 | refine V1 ?_ | refine V3 rfl ?_); fail_if_success focus skip) (by intro _g; (repeat first | exact K0 | apply K1 rfl | apply K2 rfl rfl | apply K2 rfl (by simp) | apply K3 | exact L0 | apply L1 | exact V1 rfl | exact V2 rfl | exact V3 rfl rfl | exact V4 | exact V5 rfl | exact V3 rfl (by first | (simp; omega) | simp) | exact V1 (by first | (simp; omega) | simp) | exact V6 rfl rfl (by first | rfl | simp) (by simp) rfl | apply V7 | apply V8 | apply V9); fail_if_success focus skip) (fun _ => ?_)
      exact ⟨m1 - 1, by omega, k + 1, cc, o ++ [s], by omega, by have := keepJ_next hJ1 hs; rw [keepE, hks] at this; exact this, rfl, by rw [lastS_succ hs]⟩
    · by_cases h7 : s.k = 7
      · by_cases hn : 0 < s.n
        · rw [decide_eq_true h7, decide_eq_true hn] at hks
          repeat with_reducible first | apply S1 | apply S2 | apply S3 | apply S4 | apply S5 | apply S6 | apply S7 | apply S8 | refine S0 rfl ?_ | apply SA | apply SB | apply SC
          refine aw_region ?_
          refine RA rfl rfl (by decide) (rd_loadn rfl Tk42 rfl (by first | exact CB rfl | exact CQ | exact CA rfl (by first | assumption | (rw [Nat.zero_add]; assumption))) (by (try simp only [nm, putL, Nat.reduceAdd, cellsOf, cvOf]) <;> rfl) (by simp)) ?_
          refine RA rfl rfl (by decide) (rd_loadn rfl Tk36 rfl (by first | exact CB rfl | exact CQ | exact CA rfl (by first | assumption | (rw [Nat.zero_add]; assumption))) (by (try simp only [nm, putL, Nat.reduceAdd, cellsOf, cvOf]) <;> rfl) (by simp)) ?_
          refine al_ef rfl (ef_call0 false (fun _ => qidle_a (lastS (out.take k)) s hso) rfl .fn rfl (by decide) Tc142 rfl (fun _ => C0 rfl) (by simp)) ?_
          rintro _ _ ⟨_, _, _, ⟨rfl, rfl⟩, hF, hH⟩
          rw [hib] at hF
          (try simp only [nsl, Nat.reduceAdd, Nat.reduceLT, Nat.reduceSub] at hF); (try simp only [nsl, Nat.reduceAdd, Nat.reduceLT, Nat.reduceSub] at hH); subst hF; subst hH
          refine RA rfl rfl (by decide) (rd_not rfl rfl) ?_
          refine M1 rfl ?_
          first | (refine G1 rfl ?_; (refine RA rfl rfl (by decide) (rd_fx rfl Tf36_0 rfl) ?_)) | refine G2 rfl rfl (by decide) ?_
          first | (refine G1 rfl ?_; (refine RA rfl rfl (by decide) (rd_loadn1 rfl Tk3 rfl (by first | exact CB rfl | exact CQ | exact CA rfl (by first | assumption | (rw [Nat.zero_add]; assumption))) (by (try simp only [nm, putL, Nat.reduceAdd, cellsOf, cvOf]) <;> rfl)) ?_)) | refine G2 rfl rfl (by decide) ?_
          first | (refine G1 rfl ?_; (first | refine RA rfl rfl (by decide) (rd_eql_t rfl rfl rfl (by omega)) ?_ | refine RA rfl rfl (by decide) (rd_eql_f rfl rfl rfl (by omega)) ?_ | refine RA rfl rfl (by decide) (rd_eql rfl rfl rfl) ?_)) | refine G2 rfl rfl (by decide) ?_
          first | (refine G1 rfl ?_; refine M1 rfl ?_) | refine G2 rfl rfl (by decide) ?_
          first | (refine G1 rfl ?_; (refine RA rfl rfl (by decide) (rd_fx rfl Tf36_5 rfl) ?_)) | refine G2 rfl rfl (by decide) ?_
          first | (refine G1 rfl ?_; (refine RA rfl rfl (by decide) (rd_loadn1 rfl Tk3 rfl (by first | exact CB rfl | exact CQ | exact CA rfl (by first | assumption | (rw [Nat.zero_add]; assumption))) (by (try simp only [nm, putL, Nat.reduceAdd, cellsOf, cvOf]) <;> rfl)) ?_)) | refine G2 rfl rfl (by decide) ?_
          first | (refine G1 rfl ?_; (first | refine RA rfl rfl (by decide) (rd_gtr_t rfl rfl rfl (by omega)) ?_ | refine RA rfl rfl (by decide) (rd_gtr_f rfl rfl rfl (by omega)) ?_ | refine RA rfl rfl (by decide) (rd_gtr rfl rfl rfl) ?_)) | refine G2 rfl rfl (by decide) ?_
          first | (refine G1 rfl ?_; refine M1 rfl ?_) | refine G2 rfl rfl (by decide) ?_
          refine M1 rfl ?_
          refine al_nil ?_
          repeat with_reducible first | apply S1 | apply S2 | apply S3 | apply S4 | apply S5 | apply S6 | apply S7 | apply S8 | refine S0 rfl ?_ | apply SA | apply SB | apply SC
          refine aw_cond_t rfl ?_
          repeat with_reducible first | apply S1 | apply S2 | apply S3 | apply S4 | apply S5 | apply S6 | apply S7 | apply S8 | refine S0 rfl ?_ | apply SA | apply SB | apply SC
          refine aw_region ?_
          refine M1 rfl ?_
          refine RA rfl rfl (by decide) (rd_loadn rfl Tk36 rfl (by first | exact CB rfl | exact CQ | exact CA rfl (by first | assumption | (rw [Nat.zero_add]; assumption))) (by (try simp only [nm, putL, Nat.reduceAdd, cellsOf, cvOf]) <;> rfl) (by simp)) ?_
          refine EA rfl (ef_buildSlicen rfl rfl (by decide) Te26 (.cons rfl rfl (.nil _)) rfl Tz36 rfl rfl (by simp) (by simp) (by (try simp only [nm, putL, Nat.reduceAdd, cellsOf, cvOf]) <;> rfl) (by (try simp only [nm, putL, Nat.reduceAdd, cellsOf, cvOf]) <;> rfl)) ?_
          refine al_ef rfl (ef_appn rfl rfl (by decide) Ta26 rfl rfl (by first | rfl | simp | (simp; omega)) rfl (by first | exact Src.own rfl (by (try simp only [nm, putL, Nat.reduceAdd, cellsOf, cvOf]) <;> rfl) (by first | rfl | simp | (simp; omega)) | exact Src.ro (by simp) (by simp [CV.one, Value.oneCell'])) (by (try simp only [nm, putL, Nat.reduceAdd, cellsOf, cvOf]) <;> rfl) (by omega) (fun _ _ => rfl) (by intro g c2; simp only [List.map_cons, List.map_nil, killO, killV, AV.has, AV.hasL, List.contains_cons, List.contains_nil, Nat.reduceBEq, Bool.or_false, Bool.false_or, Bool.false_eq_true, beq_self_eq_true, if_false, if_true, List.set_cons_zero, List.set_cons_succ, List.nil_append]; rfl)) ?_
          rintro _ _ ⟨_, cc, hcc, rfl, rfl⟩
          refine M1 rfl ?_
          refine al_nil ?_
          repeat with_reducible first | apply S1 | apply S2 | apply S3 | apply S4 | apply S5 | apply S6 | apply S7 | apply S8 | refine S0 rfl ?_ | apply SA | apply SB | apply SC
          refine aw_region ?_
          refine RA rfl rfl (by decide) (rd_loadn rfl Tk42 rfl (by first | exact CB rfl | exact CQ | exact CA rfl (by first | assumption | (rw [Nat.zero_add]; assumption))) (by (try simp only [nm, putL, Nat.reduceAdd, cellsOf, cvOf]) <;> rfl) (by simp)) ?_
          refine RA rfl rfl (by decide) (rd_loadn rfl Tk36 rfl (by first | exact CB rfl | exact CQ | exact CA rfl (by first | assumption | (rw [Nat.zero_add]; assumption))) (by (try simp only [nm, putL, Nat.reduceAdd, cellsOf, cvOf]) <;> rfl) (by simp)) ?_
          refine al_ef rfl (ef_call0 false (fun _ => qafter_a (lastS (out.take k)) s hso) rfl .fn rfl (by decide) Tc97 rfl (fun _ => C0 rfl) (by simp)) ?_
          rintro _ _ ⟨_, _, _, ⟨rfl, rfl⟩, hF, hH⟩
          (try simp only [nsl, Nat.reduceAdd, Nat.reduceLT, Nat.reduceSub] at hF); (try simp only [nsl, Nat.reduceAdd, Nat.reduceLT, Nat.reduceSub] at hH); subst hF; subst hH
          first | refine EA rfl (ef_storen rfl rfl rfl rfl rfl Ts42 rfl (by simp) rfl (by (try simp only [nm, putL, Nat.reduceAdd, cellsOf, cvOf]) <;> rfl) (by (try simp only [nm, putL, Nat.reduceAdd, cellsOf, cvOf]) <;> rfl)) ?_ | refine EA rfl (ef_storern rfl rfl rfl rfl (by first | assumption | (rw [Nat.zero_add]; assumption)) rfl rfl Ts42 rfl (by simp) rfl (by (try simp only [nm, putL, Nat.reduceAdd, cellsOf, cvOf]) <;> rfl) rfl) ?_
          refine al_nil ?_
          repeat with_reducible first | apply S1 | apply S2 | apply S3 | apply S4 | apply S5 | apply S6 | apply S7 | apply S8 | refine S0 rfl ?_ | apply SA | apply SB | apply SC
          refine aw_region ?_
          first | refine RA rfl rfl (by decide) (rd_addn rfl rfl rfl (by omega)) ?_ | refine RA rfl rfl (by decide) (rd_add rfl rfl rfl) ?_
          refine M1 rfl ?_
          refine al_nil ?_
          repeat with_reducible first | apply S1 | apply S2 | apply S3 | apply S4 | apply S5 | apply S6 | apply S7 | apply S8 | refine S0 rfl ?_ | apply SA | apply SB | apply SC
          refine wk_of [some 0, some 1] (fun _ => [(4, .c (prog_r vo out)), (6, .o 0 0 (o ++ [s]).length cc), (7, .p 1 0 0), (21, .c (prog_r vo out)), (22, .c (I (out.map Step.row).length)), (23, .c (I (k + 1 : Nat)))]) (fun _ => [.arr 36 6 cc ((o ++ [s]).map Step.row), .box ((afterS (lastS (out.take k)) s).row.map .c)]) (by decide) (by rw [hE]; first | exact (fun _ hi => absurd hi (Nat.not_lt_zero _)) | exact (fun i hi => by (have hi : i < 1 := hi); (have h0 : i = 0 := (by omega)); (subst h0); rfl)) (by intro _g; (repeat first | exact W0 | apply W1 rfl | exact L0 | apply L1 | exact V1 rfl | exact V2 rfl | exact V3 rfl rfl | exact V4 | exact V5 rfl | exact V3 rfl (by first | (simp; omega) | simp) | exact V1 (by first | (simp; omega) | simp) | exact V6 rfl rfl (by first | rfl | simp) (by simp) rfl | apply V7 | apply V8 | apply V9 | refine V1 ?_ | refine V3 rfl ?_); fail_if_success focus skip) (by intro _g; (repeat first | exact K0 | apply K1 rfl | apply K2 rfl rfl | apply K2 rfl (by simp) | apply K3 | exact L0 | apply L1 | exact V1 rfl | exact V2 rfl | exact V3 rfl rfl | exact V4 | exact V5 rfl | exact V3 rfl (by first | (simp; omega) | simp) | exact V1 (by first | (simp; omega) | simp) | exact V6 rfl rfl (by first | rfl | simp) (by simp) rfl | apply V7 | apply V8 | apply V9); fail_if_success focus skip) (fun _ => ?_)
          exact ⟨m1 - 1, by omega, k + 1, cc, o ++ [s], by omega, by have := keepJ_next hJ1 hs; rw [keepE, hks] at this; exact this, rfl, by rw [lastS_succ hs]⟩
        · rw [decide_eq_true h7, decide_eq_false hn] at hks
          repeat with_reducible first | apply S1 | apply S2 | apply S3 | apply S4 | apply S5 | apply S6 | apply S7 | apply S8 | refine S0 rfl ?_ | apply SA | apply SB | apply SC
          refine aw_region ?_
          refine RA rfl rfl (by decide) (rd_loadn rfl Tk42 rfl (by first | exact CB rfl | exact CQ | exact CA rfl (by first | assumption | (rw [Nat.zero_add]; assumption))) (by (try simp only [nm, putL, Nat.reduceAdd, cellsOf, cvOf]) <;> rfl) (by simp)) ?_
          refine RA rfl rfl (by decide) (rd_loadn rfl Tk36 rfl (by first | exact CB rfl | exact CQ | exact CA rfl (by first | assumption | (rw [Nat.zero_add]; assumption))) (by (try simp only [nm, putL, Nat.reduceAdd, cellsOf, cvOf]) <;> rfl) (by simp)) ?_
          refine al_ef rfl (ef_call0 false (fun _ => qidle_a (lastS (out.take k)) s hso) rfl .fn rfl (by decide) Tc142 rfl (fun _ => C0 rfl) (by simp)) ?_
          rintro _ _ ⟨_, _, _, ⟨rfl, rfl⟩, hF, hH⟩
          rw [hib] at hF
          (try simp only [nsl, Nat.reduceAdd, Nat.reduceLT, Nat.reduceSub] at hF); (try simp only [nsl, Nat.reduceAdd, Nat.reduceLT, Nat.reduceSub] at hH); subst hF; subst hH
          refine RA rfl rfl (by decide) (rd_not rfl rfl) ?_
          refine M1 rfl ?_
          first | (refine G1 rfl ?_; (refine RA rfl rfl (by decide) (rd_fx rfl Tf36_0 rfl) ?_)) | refine G2 rfl rfl (by decide) ?_
          first | (refine G1 rfl ?_; (refine RA rfl rfl (by decide) (rd_loadn1 rfl Tk3 rfl (by first | exact CB rfl | exact CQ | exact CA rfl (by first | assumption | (rw [Nat.zero_add]; assumption))) (by (try simp only [nm, putL, Nat.reduceAdd, cellsOf, cvOf]) <;> rfl)) ?_)) | refine G2 rfl rfl (by decide) ?_
          first | (refine G1 rfl ?_; (first | refine RA rfl rfl (by decide) (rd_eql_t rfl rfl rfl (by omega)) ?_ | refine RA rfl rfl (by decide) (rd_eql_f rfl rfl rfl (by omega)) ?_ | refine RA rfl rfl (by decide) (rd_eql rfl rfl rfl) ?_)) | refine G2 rfl rfl (by decide) ?_
          first | (refine G1 rfl ?_; refine M1 rfl ?_) | refine G2 rfl rfl (by decide) ?_
          first | (refine G1 rfl ?_; (refine RA rfl rfl (by decide) (rd_fx rfl Tf36_5 rfl) ?_)) | refine G2 rfl rfl (by decide) ?_
          first | (refine G1 rfl ?_; (refine RA rfl rfl (by decide) (rd_loadn1 rfl Tk3 rfl (by first | exact CB rfl | exact CQ | exact CA rfl (by first | assumption | (rw [Nat.zero_add]; assumption))) (by (try simp only [nm, putL, Nat.reduceAdd, cellsOf, cvOf]) <;> rfl)) ?_)) | refine G2 rfl rfl (by decide) ?_
          first | (refine G1 rfl ?_; (first | refine RA rfl rfl (by decide) (rd_gtr_t rfl rfl rfl (by omega)) ?_ | refine RA rfl rfl (by decide) (rd_gtr_f rfl rfl rfl (by omega)) ?_ | refine RA rfl rfl (by decide) (rd_gtr rfl rfl rfl) ?_)) | refine G2 rfl rfl (by decide) ?_
          first | (refine G1 rfl ?_; refine M1 rfl ?_) | refine G2 rfl rfl (by decide) ?_
          refine M1 rfl ?_
          refine al_nil ?_
          repeat with_reducible first | apply S1 | apply S2 | apply S3 | apply S4 | apply S5 | apply S6 | apply S7 | apply S8 | refine S0 rfl ?_ | apply SA | apply SB | apply SC
          refine aw_cond_f rfl ?_
          repeat with_reducible first | apply S1 | apply S2 | apply S3 | apply S4 | apply S5 | apply S6 | apply S7 | apply S8 | refine S0 rfl ?_ | apply SA | apply SB | apply SC
          refine aw_region ?_
          refine RA rfl rfl (by decide) (rd_loadn rfl Tk42 rfl (by first | exact CB rfl | exact CQ | exact CA rfl (by first | assumption | (rw [Nat.zero_add]; assumption))) (by (try simp only [nm, putL, Nat.reduceAdd, cellsOf, cvOf]) <;> rfl) (by simp)) ?_
          refine RA rfl rfl (by decide) (rd_loadn rfl Tk36 rfl (by first | exact CB rfl | exact CQ | exact CA rfl (by first | assumption | (rw [Nat.zero_add]; assumption))) (by (try simp only [nm, putL, Nat.reduceAdd, cellsOf, cvOf]) <;> rfl) (by simp)) ?_
          refine al_ef rfl (ef_call0 false (fun _ => qafter_a (lastS (out.take k)) s hso) rfl .fn rfl (by decide) Tc97 rfl (fun _ => C0 rfl) (by simp)) ?_
          rintro _ _ ⟨_, _, _, ⟨rfl, rfl⟩, hF, hH⟩
          (try simp only [nsl, Nat.reduceAdd, Nat.reduceLT, Nat.reduceSub] at hF); (try simp only [nsl, Nat.reduceAdd, Nat.reduceLT, Nat.reduceSub] at hH); subst hF; subst hH
          first | refine EA rfl (ef_storen rfl rfl rfl rfl rfl Ts42 rfl (by simp) rfl (by (try simp only [nm, putL, Nat.reduceAdd, cellsOf, cvOf]) <;> rfl) (by (try simp only [nm, putL, Nat.reduceAdd, cellsOf, cvOf]) <;> rfl)) ?_ | refine EA rfl (ef_storern rfl rfl rfl rfl (by first | assumption | (rw [Nat.zero_add]; assumption)) rfl rfl Ts42 rfl (by simp) rfl (by (try simp only [nm, putL, Nat.reduceAdd, cellsOf, cvOf]) <;> rfl) rfl) ?_
          refine al_nil ?_
          repeat with_reducible first | apply S1 | apply S2 | apply S3 | apply S4 | apply S5 | apply S6 | apply S7 | apply S8 | refine S0 rfl ?_ | apply SA | apply SB | apply SC
          refine aw_region ?_
          first | refine RA rfl rfl (by decide) (rd_addn rfl rfl rfl (by omega)) ?_ | refine RA rfl rfl (by decide) (rd_add rfl rfl rfl) ?_
          refine M1 rfl ?_
          refine al_nil ?_
          repeat with_reducible first | apply S1 | apply S2 | apply S3 | apply S4 | apply S5 | apply S6 | apply S7 | apply S8 | refine S0 rfl ?_ | apply SA | apply SB | apply SC
          refine wk_of [some 0, some 1] (fun _ => [(4, .c (prog_r vo out)), (6, .o 0 0 o.length c), (7, .p 1 0 0), (21, .c (prog_r vo out)), (22, .c (I (out.map Step.row).length)), (23, .c (I (k + 1 : Nat)))]) (fun _ => [.arr 36 6 c (o.map Step.row), .box ((afterS (lastS (out.take k)) s).row.map .c)]) (by decide) (by rw [hE]; first | exact (fun _ hi => absurd hi (Nat.not_lt_zero _)) | exact (fun i hi => by (have hi : i < 1 := hi); (have h0 : i = 0 := (by omega)); (subst h0); rfl)) (by intro _g; (repeat first | exact W0 | apply W1 rfl | exact L0 | apply L1 | exact V1 rfl | exact V2 rfl | exact V3 rfl rfl | exact V4 | exact V5 rfl | exact V3 rfl (by first | (simp; omega) | simp) | exact V1 (by first | (simp; omega) | simp) | exact V6 rfl rfl (by first | rfl | simp) (by simp) rfl | apply V7 | apply V8 | apply V9 | refine V1 ?_ | refine V3 rfl ?_); fail_if_success focus skip) (by intro _g; (repeat first | exact K0 | apply K1 rfl | apply K2 rfl rfl | apply K2 rfl (by simp) | apply K3 | exact L0 | apply L1 | exact V1 rfl | exact V2 rfl | exact V3 rfl rfl | exact V4 | exact V5 rfl | exact V3 rfl (by first | (simp; omega) | simp) | exact V1 (by first | (simp; omega) | simp) | exact V6 rfl rfl (by first | rfl | simp) (by simp) rfl | apply V7 | apply V8 | apply V9); fail_if_success focus skip) (fun _ => ?_)
          exact ⟨m1 - 1, by omega, k + 1, c, o, by omega, by have := keepJ_next hJ1 hs; rw [keepE, hks] at this; simpa using this, rfl, by rw [lastS_succ hs]⟩
      · rw [decide_eq_false h7] at hks
        repeat with_reducible first | apply S1 | apply S2 | apply S3 | apply S4 | apply S5 | apply S6 | apply S7 | apply S8 | refine S0 rfl ?_ | apply SA | apply SB | apply SC
        refine aw_region ?_
        refine RA rfl rfl (by decide) (rd_loadn rfl Tk42 rfl (by first | exact CB rfl | exact CQ | exact CA rfl (by first | assumption | (rw [Nat.zero_add]; assumption))) (by (try simp only [nm, putL, Nat.reduceAdd, cellsOf, cvOf]) <;> rfl) (by simp)) ?_
        refine RA rfl rfl (by decide) (rd_loadn rfl Tk36 rfl (by first | exact CB rfl | exact CQ | exact CA rfl (by first | assumption | (rw [Nat.zero_add]; assumption))) (by (try simp only [nm, putL, Nat.reduceAdd, cellsOf, cvOf]) <;> rfl) (by simp)) ?_
        refine al_ef rfl (ef_call0 false (fun _ => qidle_a (lastS (out.take k)) s hso) rfl .fn rfl (by decide) Tc142 rfl (fun _ => C0 rfl) (by simp)) ?_
        rintro _ _ ⟨_, _, _, ⟨rfl, rfl⟩, hF, hH⟩
        rw [hib] at hF
        (try simp only [nsl, Nat.reduceAdd, Nat.reduceLT, Nat.reduceSub] at hF); (try simp only [nsl, Nat.reduceAdd, Nat.reduceLT, Nat.reduceSub] at hH); subst hF; subst hH
        refine RA rfl rfl (by decide) (rd_not rfl rfl) ?_
        refine M1 rfl ?_
        first | (refine G1 rfl ?_; (refine RA rfl rfl (by decide) (rd_fx rfl Tf36_0 rfl) ?_)) | refine G2 rfl rfl (by decide) ?_
        first | (refine G1 rfl ?_; (refine RA rfl rfl (by decide) (rd_loadn1 rfl Tk3 rfl (by first | exact CB rfl | exact CQ | exact CA rfl (by first | assumption | (rw [Nat.zero_add]; assumption))) (by (try simp only [nm, putL, Nat.reduceAdd, cellsOf, cvOf]) <;> rfl)) ?_)) | refine G2 rfl rfl (by decide) ?_
        first | (refine G1 rfl ?_; (first | refine RA rfl rfl (by decide) (rd_eql_t rfl rfl rfl (by omega)) ?_ | refine RA rfl rfl (by decide) (rd_eql_f rfl rfl rfl (by omega)) ?_ | refine RA rfl rfl (by decide) (rd_eql rfl rfl rfl) ?_)) | refine G2 rfl rfl (by decide) ?_
        first | (refine G1 rfl ?_; refine M1 rfl ?_) | refine G2 rfl rfl (by decide) ?_
        first | (refine G1 rfl ?_; (refine RA rfl rfl (by decide) (rd_fx rfl Tf36_5 rfl) ?_)) | refine G2 rfl rfl (by decide) ?_
        first | (refine G1 rfl ?_; (refine RA rfl rfl (by decide) (rd_loadn1 rfl Tk3 rfl (by first | exact CB rfl | exact CQ | exact CA rfl (by first | assumption | (rw [Nat.zero_add]; assumption))) (by (try simp only [nm, putL, Nat.reduceAdd, cellsOf, cvOf]) <;> rfl)) ?_)) | refine G2 rfl rfl (by decide) ?_
        first | (refine G1 rfl ?_; (first | refine RA rfl rfl (by decide) (rd_gtr_t rfl rfl rfl (by omega)) ?_ | refine RA rfl rfl (by decide) (rd_gtr_f rfl rfl rfl (by omega)) ?_ | refine RA rfl rfl (by decide) (rd_gtr rfl rfl rfl) ?_)) | refine G2 rfl rfl (by decide) ?_
        first | (refine G1 rfl ?_; refine M1 rfl ?_) | refine G2 rfl rfl (by decide) ?_
        refine M1 rfl ?_
        refine al_nil ?_
        repeat with_reducible first | apply S1 | apply S2 | apply S3 | apply S4 | apply S5 | apply S6 | apply S7 | apply S8 | refine S0 rfl ?_ | apply SA | apply SB | apply SC
        refine aw_cond_f rfl ?_
        repeat with_reducible first | apply S1 | apply S2 | apply S3 | apply S4 | apply S5 | apply S6 | apply S7 | apply S8 | refine S0 rfl ?_ | apply SA | apply SB | apply SC
        refine aw_region ?_
        refine RA rfl rfl (by decide) (rd_loadn rfl Tk42 rfl (by first | exact CB rfl | exact CQ | exact CA rfl (by first | assumption | (rw [Nat.zero_add]; assumption))) (by (try simp only [nm, putL, Nat.reduceAdd, cellsOf, cvOf]) <;> rfl) (by simp)) ?_
        refine RA rfl rfl (by decide) (rd_loadn rfl Tk36 rfl (by first | exact CB rfl | exact CQ | exact CA rfl (by first | assumption | (rw [Nat.zero_add]; assumption))) (by (try simp only [nm, putL, Nat.reduceAdd, cellsOf, cvOf]) <;> rfl) (by simp)) ?_
        refine al_ef rfl (ef_call0 false (fun _ => qafter_a (lastS (out.take k)) s hso) rfl .fn rfl (by decide) Tc97 rfl (fun _ => C0 rfl) (by simp)) ?_
        rintro _ _ ⟨_, _, _, ⟨rfl, rfl⟩, hF, hH⟩
        (try simp only [nsl, Nat.reduceAdd, Nat.reduceLT, Nat.reduceSub] at hF); (try simp only [nsl, Nat.reduceAdd, Nat.reduceLT, Nat.reduceSub] at hH); subst hF; subst hH
        first | refine EA rfl (ef_storen rfl rfl rfl rfl rfl Ts42 rfl (by simp) rfl (by (try simp only [nm, putL, Nat.reduceAdd, cellsOf, cvOf]) <;> rfl) (by (try simp only [nm, putL, Nat.reduceAdd, cellsOf, cvOf]) <;> rfl)) ?_ | refine EA rfl (ef_storern rfl rfl rfl rfl (by first | assumption | (rw [Nat.zero_add]; assumption)) rfl rfl Ts42 rfl (by simp) rfl (by (try simp only [nm, putL, Nat.reduceAdd, cellsOf, cvOf]) <;> rfl) rfl) ?_
        refine al_nil ?_
        repeat with_reducible first | apply S1 | apply S2 | apply S3 | apply S4 | apply S5 | apply S6 | apply S7 | apply S8 | refine S0 rfl ?_ | apply SA | apply SB | apply SC
        refine aw_region ?_
        first | refine RA rfl rfl (by decide) (rd_addn rfl rfl rfl (by omega)) ?_ | refine RA rfl rfl (by decide) (rd_add rfl rfl rfl) ?_
        refine M1 rfl ?_
        refine al_nil ?_
        repeat with_reducible first | apply S1 | apply S2 | apply S3 | apply S4 | apply S5 | apply S6 | apply S7 | apply S8 | refine S0 rfl ?_ | apply SA | apply SB | apply SC
        refine wk_of [some 0, some 1] (fun _ => [(4, .c (prog_r vo out)), (6, .o 0 0 o.length c), (7, .p 1 0 0), (21, .c (prog_r vo out)), (22, .c (I (out.map Step.row).length)), (23, .c (I (k + 1 : Nat)))]) (fun _ => [.arr 36 6 c (o.map Step.row), .box ((afterS (lastS (out.take k)) s).row.map .c)]) (by decide) (by rw [hE]; first | exact (fun _ hi => absurd hi (Nat.not_lt_zero _)) | exact (fun i hi => by (have hi : i < 1 := hi); (have h0 : i = 0 := (by omega)); (subst h0); rfl)) (by intro _g; (repeat first | exact W0 | apply W1 rfl | exact L0 | apply L1 | exact V1 rfl | exact V2 rfl | exact V3 rfl rfl | exact V4 | exact V5 rfl | exact V3 rfl (by first | (simp; omega) | simp) | exact V1 (by first | (simp; omega) | simp) | exact V6 rfl rfl (by first | rfl | simp) (by simp) rfl | apply V7 | apply V8 | apply V9 | refine V1 ?_ | refine V3 rfl ?_); fail_if_success focus skip) (by intro _g; (repeat first | exact K0 | apply K1 rfl | apply K2 rfl rfl | apply K2 rfl (by simp) | apply K3 | exact L0 | apply L1 | exact V1 rfl | exact V2 rfl | exact V3 rfl rfl | exact V4 | exact V5 rfl | exact V3 rfl (by first | (simp; omega) | simp) | exact V1 (by first | (simp; omega) | simp) | exact V6 rfl rfl (by first | rfl | simp) (by simp) rfl | apply V7 | apply V8 | apply V9); fail_if_success focus skip) (fun _ => ?_)
        exact ⟨m1 - 1, by omega, k + 1, c, o, by omega, by have := keepJ_next hJ1 hs; rw [keepE, hks] at this; simpa using this, rfl, by rw [lastS_succ hs]⟩
  obtain rfl : k = out.length := by omega
  obtain ⟨hJ2, -⟩ := hJ1
  rw [List.drop_eq_nil_of_le (Nat.le_refl _), keepFrom, List.append_nil] at hJ2
  repeat with_reducible first | apply S1 | apply S2 | apply S3 | apply S4 | apply S5 | apply S6 | apply S7 | apply S8 | refine S0 rfl ?_ | apply SA | apply SB | apply SC
  refine aw_region ?_
  refine M1 rfl ?_
  refine al_nil ?_
  repeat with_reducible first | apply S1 | apply S2 | apply S3 | apply S4 | apply S5 | apply S6 | apply S7 | apply S8 | refine S0 rfl ?_ | apply SA | apply SB | apply SC
  refine aw_region ?_
  refine M1 rfl ?_
  refine RA rfl rfl (by decide) (rd_lx rfl Te26 rfl) ?_
  refine M1 rfl ?_
  refine al_nil ?_
  repeat with_reducible first | apply S1 | apply S2 | apply S3 | apply S4 | apply S5 | apply S6 | apply S7 | apply S8 | refine S0 rfl ?_ | apply SA | apply SB | apply SC
  refine aw_loopw (fun m2 F H => ∃ (k c2 : Nat) (p : List Step), m2 + k = o.length ∧ p.length ≤ k ∧ p ++ dropN (o.drop k) = dropN o ∧ F = [(4, .c (prog_r vo out)), (6, .o 0 0 o.length c), (10, .o 1 0 p.length c2), (49, .o 0 0 o.length c), (50, .c (I o.length)), (51, .c (I k))] ∧ H = [.arr 36 6 c (o.map Step.row), .arr 36 6 c2 (p.map Step.row)]) ?_ ?_
  · refine wk_of [some 0, none] (fun _ => [(4, .c (prog_r vo out)), (6, .o 0 0 o.length c), (10, .o 1 0 ([] : List Step).length 0), (49, .o 0 0 o.length c), (50, .c (I o.length)), (51, .c (I (0 : Nat)))]) (fun _ => [.arr 36 6 c (o.map Step.row), .arr 36 6 0 (([] : List Step).map Step.row)]) (by decide) (by rw [hE]; first | exact (fun _ hi => absurd hi (Nat.not_lt_zero _)) | exact (fun i hi => by (have hi : i < 1 := hi); (have h0 : i = 0 := (by omega)); (subst h0); rfl)) (by intro _g; (repeat first | exact W0 | apply W1 rfl | exact L0 | apply L1 | exact V1 rfl | exact V2 rfl | exact V3 rfl rfl | exact V4 | exact V5 rfl | exact V3 rfl (by first | (simp; omega) | simp) | exact V1 (by first | (simp; omega) | simp) | exact V6 rfl rfl (by first | rfl | simp) (by simp) rfl | apply V7 | apply V8 | apply V9 | refine V1 ?_ | refine V3 rfl ?_); fail_if_success focus skip) (by intro _g; (repeat first | exact K0 | apply K1 rfl | apply K2 rfl rfl | apply K2 rfl (by simp) | apply K3 | exact L0 | apply L1 | exact V1 rfl | exact V2 rfl | exact V3 rfl rfl | exact V4 | exact V5 rfl | exact V3 rfl (by first | (simp; omega) | simp) | exact V1 (by first | (simp; omega) | simp) | exact V6 rfl rfl (by first | rfl | simp) (by simp) rfl | apply V7 | apply V8 | apply V9); fail_if_success focus skip) (fun _ => ?_)
    exact ⟨o.length, 0, 0, [], by omega, by simp, rfl, rfl, rfl⟩
  rintro m2 F H ⟨k, c2, p, hk, hpl, hp, rfl, rfl⟩
  repeat with_reducible first | apply S1 | apply S2 | apply S3 | apply S4 | apply S5 | apply S6 | apply S7 | apply S8 | refine S0 rfl ?_ | apply SA | apply SB | apply SC
  refine aw_region ?_
  first | refine RA rfl rfl (by decide) (rd_lss_t rfl rfl rfl (by omega)) ?_ | refine RA rfl rfl (by decide) (rd_lss_f rfl rfl rfl (by omega)) ?_ | refine RA rfl rfl (by decide) (rd_lss rfl rfl rfl) ?_
  refine al_nil ?_
  repeat with_reducible first | apply S1 | apply S2 | apply S3 | apply S4 | apply S5 | apply S6 | apply S7 | apply S8 | refine S0 rfl ?_ | apply SA | apply SB | apply SC
  refine aw_if rfl (fun hlt => ?_) (fun hge => ?_)
  · obtain ⟨x, hx⟩ : ∃ x, o[k]? = some x := ⟨_, List.getElem?_eq_getElem (by omega)⟩
    have r1 : (o.map Step.row)[k]? = some x.row := by rw [List.getElem?_map, hx]; rfl
    repeat with_reducible first | apply S1 | apply S2 | apply S3 | apply S4 | apply S5 | apply S6 | apply S7 | apply S8 | refine S0 rfl ?_ | apply SA | apply SB | apply SC
    refine aw_region ?_
    refine M1 rfl ?_
    first | refine RA rfl rfl (by decide) (rd_index rfl Te26 rfl rfl rfl (by first | rfl | omega) (by omega)) ?_ | refine RA rfl rfl (by decide) (rd_indexq rfl Te26 rfl rfl (by first | rfl | omega) (by assumption) rfl) ?_
    refine RA rfl rfl (by decide) (rd_loadn rfl Tk36 rfl (by first | exact CB rfl | exact CQ | exact CA rfl (by first | assumption | (rw [Nat.zero_add]; assumption))) (by (try simp only [nm, putL, Nat.reduceAdd, cellsOf, cvOf]) <;> rfl) (by simp)) ?_
    refine EA rfl (ef_allocn rfl rfl (by decide) Tz36 rfl rfl (by (try simp only [nm, putL, Nat.reduceAdd, cellsOf, cvOf]) <;> rfl) (by (try simp only [nm, putL, Nat.reduceAdd, cellsOf, cvOf]) <;> rfl)) ?_
    refine M1 rfl ?_
    first | refine EA rfl (ef_storen rfl rfl rfl rfl rfl Ts36 rfl (by simp) rfl (by (try simp only [nm, putL, Nat.reduceAdd, cellsOf, cvOf]) <;> rfl) (by (try simp only [nm, putL, Nat.reduceAdd, cellsOf, cvOf]) <;> rfl)) ?_ | refine EA rfl (ef_storern rfl rfl rfl rfl (by first | assumption | (rw [Nat.zero_add]; assumption)) rfl rfl Ts36 rfl (by simp) rfl (by (try simp only [nm, putL, Nat.reduceAdd, cellsOf, cvOf]) <;> rfl) rfl) ?_
    refine al_nil ?_
    repeat with_reducible first | apply S1 | apply S2 | apply S3 | apply S4 | apply S5 | apply S6 | apply S7 | apply S8 | refine S0 rfl ?_ | apply SA | apply SB | apply SC
    by_cases hy : k + 1 < o.length
    · obtain ⟨y, hy1⟩ : ∃ x, o[k + 1]? = some x := ⟨_, List.getElem?_eq_getElem hy⟩
      have r2 : (o.map Step.row)[k + 1]? = some y.row := by rw [List.getElem?_map, hy1]; rfl
      by_cases h3 : x.k = 3
      · by_cases hkk : y.k = x.k
        · have hsel : sel x o[k + 1]? = true := by rw [hy1]; exact sel_t hkk (.inl h3)
          repeat with_reducible first | apply S1 | apply S2 | apply S3 | apply S4 | apply S5 | apply S6 | apply S7 | apply S8 | refine S0 rfl ?_ | apply SA | apply SB | apply SC
          refine aw_regionT [(0, none), (1, none), (2, none), (3, none), (4, none), (5, none), (6, none), (7, none), (8, none), (9, none), (10, none), (11, none), (12, none), (13, none), (14, none), (15, none), (16, none), (17, none), (18, none), (19, none), (20, none), (21, none), (22, none), (23, none), (24, none), (25, none)] hMixed (by kernel_rfl) ?_
          refine RT rfl rfl rfl (by decide) (rd_fx rfl Tf36_0 rfl) ?_
          refine RT rfl rfl rfl (by decide) (rd_loadn1 rfl Tk3 rfl (by first | exact CB rfl | exact CQ | exact CA rfl (by first | assumption | (rw [Nat.zero_add]; assumption))) (by (try simp only [nm, putL, Nat.reduceAdd, cellsOf, cvOf]) <;> rfl)) ?_
          first | refine RT rfl rfl rfl (by decide) (rd_eql_t rfl rfl rfl (by omega)) ?_ | refine RT rfl rfl rfl (by decide) (rd_eql_f rfl rfl rfl (by omega)) ?_ | refine RT rfl rfl rfl (by decide) (rd_eql rfl rfl rfl) ?_
          refine M2 rfl rfl ?_
          first | refine G3 rfl rfl rfl (by decide) (rd_fx rfl Tf36_0 rfl) ?_ | refine G4 rfl rfl rfl (by decide) ?_
          first | refine G3 rfl rfl rfl (by decide) (rd_loadn1 rfl Tk3 rfl (by first | exact CB rfl | exact CQ | exact CA rfl (by first | assumption | (rw [Nat.zero_add]; assumption))) (by (try simp only [nm, putL, Nat.reduceAdd, cellsOf, cvOf]) <;> rfl)) ?_ | refine G4 rfl rfl rfl (by decide) ?_
          first | refine G3 rfl rfl rfl (by decide) (rd_eql_t rfl rfl rfl (by omega)) ?_ | refine G3 rfl rfl rfl (by decide) (rd_eql_f rfl rfl rfl (by omega)) ?_ | refine G3 rfl rfl rfl (by decide) (rd_eql rfl rfl rfl) ?_ | refine G4 rfl rfl rfl (by decide) ?_
          refine M2 rfl rfl ?_
          refine M2 rfl rfl ?_
          first | refine G3 rfl rfl rfl (by decide) (rd_move rfl rfl) ?_ | refine G4 rfl rfl rfl (by decide) ?_
          first | refine G3 rfl rfl rfl (by decide) (rd_addy (z := ((k + 1 : Nat) : Int)) rfl rfl rfl (by omega) (by omega)) ?_ | refine G4 rfl rfl rfl (by decide) ?_
          first | refine G3 rfl rfl rfl (by decide) (rd_move rfl rfl) ?_ | refine G4 rfl rfl rfl (by decide) ?_
          first | refine G3 rfl rfl rfl (by decide) (rd_lx rfl Te26 rfl) ?_ | refine G4 rfl rfl rfl (by decide) ?_
          first | refine G3 rfl rfl rfl (by decide) (rd_lss_t rfl rfl rfl (by omega)) ?_ | refine G3 rfl rfl rfl (by decide) (rd_lss_f rfl rfl rfl (by omega)) ?_ | refine G3 rfl rfl rfl (by decide) (rd_lss rfl rfl rfl) ?_ | refine G4 rfl rfl rfl (by decide) ?_
          refine M2 rfl rfl ?_
          refine M2 rfl rfl ?_
          first | refine G3 rfl rfl rfl (by decide) (rd_move rfl rfl) ?_ | refine G4 rfl rfl rfl (by decide) ?_
          first | refine G3 rfl rfl rfl (by decide) (rd_move rfl rfl) ?_ | refine G4 rfl rfl rfl (by decide) ?_
          first | refine G3 rfl rfl rfl (by decide) (rd_addy (z := ((k + 1 : Nat) : Int)) rfl rfl rfl (by omega) (by omega)) ?_ | refine G4 rfl rfl rfl (by decide) ?_
          first | refine G3 rfl rfl rfl (by decide) (rd_index rfl Te26 rfl rfl rfl (by first | rfl | omega) (by omega)) ?_ | refine G3 rfl rfl rfl (by decide) (rd_indexq rfl Te26 rfl rfl (by first | rfl | omega) (by assumption) rfl) ?_ | refine G4 rfl rfl rfl (by decide) ?_
          first | refine G3 rfl rfl rfl (by decide) (rd_fx rfl Tf36_0 rfl) ?_ | refine G4 rfl rfl rfl (by decide) ?_
          first | refine G3 rfl rfl rfl (by decide) (rd_loadn1 rfl Tk3 rfl (by first | exact CB rfl | exact CQ | exact CA rfl (by first | assumption | (rw [Nat.zero_add]; assumption))) (by (try simp only [nm, putL, Nat.reduceAdd, cellsOf, cvOf]) <;> rfl)) ?_ | refine G4 rfl rfl rfl (by decide) ?_
          first | refine G3 rfl rfl rfl (by decide) (rd_fx rfl Tf36_0 rfl) ?_ | refine G4 rfl rfl rfl (by decide) ?_
          first | refine G3 rfl rfl rfl (by decide) (rd_loadn1 rfl Tk3 rfl (by first | exact CB rfl | exact CQ | exact CA rfl (by first | assumption | (rw [Nat.zero_add]; assumption))) (by (try simp only [nm, putL, Nat.reduceAdd, cellsOf, cvOf]) <;> rfl)) ?_ | refine G4 rfl rfl rfl (by decide) ?_
          first | refine G3 rfl rfl rfl (by decide) (rd_eql_t rfl rfl rfl (by omega)) ?_ | refine G3 rfl rfl rfl (by decide) (rd_eql_f rfl rfl rfl (by omega)) ?_ | refine G3 rfl rfl rfl (by decide) (rd_eql rfl rfl rfl) ?_ | refine G4 rfl rfl rfl (by decide) ?_
          refine M2 rfl rfl ?_
          refine at_nil ?_
          repeat with_reducible first | apply S1 | apply S2 | apply S3 | apply S4 | apply S5 | apply S6 | apply S7 | apply S8 | refine S0 rfl ?_ | apply SA | apply SB | apply SC
          refine aw_cond_t rfl ?_
          repeat with_reducible first | apply S1 | apply S2 | apply S3 | apply S4 | apply S5 | apply S6 | apply S7 | apply S8 | refine S0 rfl ?_ | apply SA | apply SB | apply SC
          refine aw_region ?_
          first | refine RA rfl rfl (by decide) (rd_addn rfl rfl rfl (by omega)) ?_ | refine RA rfl rfl (by decide) (rd_add rfl rfl rfl) ?_
          refine M1 rfl ?_
          refine al_nil ?_
          repeat with_reducible first | apply S1 | apply S2 | apply S3 | apply S4 | apply S5 | apply S6 | apply S7 | apply S8 | refine S0 rfl ?_ | apply SA | apply SB | apply SC
          refine wk_of [some 0, some 1] (fun _ => [(4, .c (prog_r vo out)), (6, .o 0 0 o.length c), (10, .o 1 0 p.length c2), (49, .o 0 0 o.length c), (50, .c (I o.length)), (51, .c (I (k + 1 : Nat)))]) (fun _ => _) (by decide) (by rw [hE]; first | exact (fun _ hi => absurd hi (Nat.not_lt_zero _)) | exact (fun i hi => by (have hi : i < 1 := hi); (have h0 : i = 0 := (by omega)); (subst h0); rfl)) (by intro _g; (repeat first | exact W0 | apply W1 rfl | exact L0 | apply L1 | exact V1 rfl | exact V2 rfl | exact V3 rfl rfl | exact V4 | exact V5 rfl | exact V3 rfl (by first | (simp; omega) | simp) | exact V1 (by first | (simp; omega) | simp) | exact V6 rfl rfl (by first | rfl | simp) (by simp) rfl | apply V7 | apply V8 | apply V9 | refine V1 ?_ | refine V3 rfl ?_); fail_if_success focus skip) (by intro _g; (repeat first | exact K0 | apply K1 rfl | apply K2 rfl rfl | apply K2 rfl (by simp) | apply K3 | exact L0 | apply L1 | exact V1 rfl | exact V2 rfl | exact V3 rfl rfl | exact V4 | exact V5 rfl | exact V3 rfl (by first | (simp; omega) | simp) | exact V1 (by first | (simp; omega) | simp) | exact V6 rfl rfl (by first | rfl | simp) (by simp) rfl | apply V7 | apply V8 | apply V9); fail_if_success focus skip) (fun _ => ?_)
          exact ⟨m2 - 1, by omega, k + 1, c2, p, by omega, by omega, by rw [← hp, dropN_at hx, hsel]; rfl, rfl, rfl⟩
        · have hsel : sel x o[k + 1]? = false := by rw [hy1]; exact sel_f hkk
          repeat with_reducible first | apply S1 | apply S2 | apply S3 | apply S4 | apply S5 | apply S6 | apply S7 | apply S8 | refine S0 rfl ?_ | apply SA | apply SB | apply SC
          refine aw_regionT [(0, none), (1, none), (2, none), (3, none), (4, none), (5, none), (6, none), (7, none), (8, none), (9, none), (10, none), (11, none), (12, none), (13, none), (14, none), (15, none), (16, none), (17, none), (18, none), (19, none), (20, none), (21, none), (22, none), (23, none), (24, none), (25, none)] hMixed (by kernel_rfl) ?_
          refine RT rfl rfl rfl (by decide) (rd_fx rfl Tf36_0 rfl) ?_
          refine RT rfl rfl rfl (by decide) (rd_loadn1 rfl Tk3 rfl (by first | exact CB rfl | exact CQ | exact CA rfl (by first | assumption | (rw [Nat.zero_add]; assumption))) (by (try simp only [nm, putL, Nat.reduceAdd, cellsOf, cvOf]) <;> rfl)) ?_
          first | refine RT rfl rfl rfl (by decide) (rd_eql_t rfl rfl rfl (by omega)) ?_ | refine RT rfl rfl rfl (by decide) (rd_eql_f rfl rfl rfl (by omega)) ?_ | refine RT rfl rfl rfl (by decide) (rd_eql rfl rfl rfl) ?_
          refine M2 rfl rfl ?_
          first | refine G3 rfl rfl rfl (by decide) (rd_fx rfl Tf36_0 rfl) ?_ | refine G4 rfl rfl rfl (by decide) ?_
          first | refine G3 rfl rfl rfl (by decide) (rd_loadn1 rfl Tk3 rfl (by first | exact CB rfl | exact CQ | exact CA rfl (by first | assumption | (rw [Nat.zero_add]; assumption))) (by (try simp only [nm, putL, Nat.reduceAdd, cellsOf, cvOf]) <;> rfl)) ?_ | refine G4 rfl rfl rfl (by decide) ?_
          first | refine G3 rfl rfl rfl (by decide) (rd_eql_t rfl rfl rfl (by omega)) ?_ | refine G3 rfl rfl rfl (by decide) (rd_eql_f rfl rfl rfl (by omega)) ?_ | refine G3 rfl rfl rfl (by decide) (rd_eql rfl rfl rfl) ?_ | refine G4 rfl rfl rfl (by decide) ?_
          refine M2 rfl rfl ?_
          refine M2 rfl rfl ?_
          first | refine G3 rfl rfl rfl (by decide) (rd_move rfl rfl) ?_ | refine G4 rfl rfl rfl (by decide) ?_
          first | refine G3 rfl rfl rfl (by decide) (rd_addy (z := ((k + 1 : Nat) : Int)) rfl rfl rfl (by omega) (by omega)) ?_ | refine G4 rfl rfl rfl (by decide) ?_
          first | refine G3 rfl rfl rfl (by decide) (rd_move rfl rfl) ?_ | refine G4 rfl rfl rfl (by decide) ?_
          first | refine G3 rfl rfl rfl (by decide) (rd_lx rfl Te26 rfl) ?_ | refine G4 rfl rfl rfl (by decide) ?_
          first | refine G3 rfl rfl rfl (by decide) (rd_lss_t rfl rfl rfl (by omega)) ?_ | refine G3 rfl rfl rfl (by decide) (rd_lss_f rfl rfl rfl (by omega)) ?_ | refine G3 rfl rfl rfl (by decide) (rd_lss rfl rfl rfl) ?_ | refine G4 rfl rfl rfl (by decide) ?_
          refine M2 rfl rfl ?_
          refine M2 rfl rfl ?_
          first | refine G3 rfl rfl rfl (by decide) (rd_move rfl rfl) ?_ | refine G4 rfl rfl rfl (by decide) ?_
          first | refine G3 rfl rfl rfl (by decide) (rd_move rfl rfl) ?_ | refine G4 rfl rfl rfl (by decide) ?_
          first | refine G3 rfl rfl rfl (by decide) (rd_addy (z := ((k + 1 : Nat) : Int)) rfl rfl rfl (by omega) (by omega)) ?_ | refine G4 rfl rfl rfl (by decide) ?_
          first | refine G3 rfl rfl rfl (by decide) (rd_index rfl Te26 rfl rfl rfl (by first | rfl | omega) (by omega)) ?_ | refine G3 rfl rfl rfl (by decide) (rd_indexq rfl Te26 rfl rfl (by first | rfl | omega) (by assumption) rfl) ?_ | refine G4 rfl rfl rfl (by decide) ?_
          first | refine G3 rfl rfl rfl (by decide) (rd_fx rfl Tf36_0 rfl) ?_ | refine G4 rfl rfl rfl (by decide) ?_
          first | refine G3 rfl rfl rfl (by decide) (rd_loadn1 rfl Tk3 rfl (by first | exact CB rfl | exact CQ | exact CA rfl (by first | assumption | (rw [Nat.zero_add]; assumption))) (by (try simp only [nm, putL, Nat.reduceAdd, cellsOf, cvOf]) <;> rfl)) ?_ | refine G4 rfl rfl rfl (by decide) ?_
          first | refine G3 rfl rfl rfl (by decide) (rd_fx rfl Tf36_0 rfl) ?_ | refine G4 rfl rfl rfl (by decide) ?_
          first | refine G3 rfl rfl rfl (by decide) (rd_loadn1 rfl Tk3 rfl (by first | exact CB rfl | exact CQ | exact CA rfl (by first | assumption | (rw [Nat.zero_add]; assumption))) (by (try simp only [nm, putL, Nat.reduceAdd, cellsOf, cvOf]) <;> rfl)) ?_ | refine G4 rfl rfl rfl (by decide) ?_
          first | refine G3 rfl rfl rfl (by decide) (rd_eql_t rfl rfl rfl (by omega)) ?_ | refine G3 rfl rfl rfl (by decide) (rd_eql_f rfl rfl rfl (by omega)) ?_ | refine G3 rfl rfl rfl (by decide) (rd_eql rfl rfl rfl) ?_ | refine G4 rfl rfl rfl (by decide) ?_
          refine M2 rfl rfl ?_
          refine at_nil ?_
          repeat with_reducible first | apply S1 | apply S2 | apply S3 | apply S4 | apply S5 | apply S6 | apply S7 | apply S8 | refine S0 rfl ?_ | apply SA | apply SB | apply SC
          refine aw_cond_f rfl ?_
          repeat with_reducible first | apply S1 | apply S2 | apply S3 | apply S4 | apply S5 | apply S6 | apply S7 | apply S8 | refine S0 rfl ?_ | apply SA | apply SB | apply SC
          refine aw_region ?_
          refine M1 rfl ?_
          refine RA rfl rfl (by decide) (rd_loadn rfl Tk36 rfl (by first | exact CB rfl | exact CQ | exact CA rfl (by first | assumption | (rw [Nat.zero_add]; assumption))) (by (try simp only [nm, putL, Nat.reduceAdd, cellsOf, cvOf]) <;> rfl) (by simp)) ?_
          refine EA rfl (ef_buildSlicen rfl rfl (by decide) Te26 (.cons rfl rfl (.nil _)) rfl Tz36 rfl rfl (by simp) (by simp) (by (try simp only [nm, putL, Nat.reduceAdd, cellsOf, cvOf]) <;> rfl) (by (try simp only [nm, putL, Nat.reduceAdd, cellsOf, cvOf]) <;> rfl)) ?_
          refine al_ef rfl (ef_appn rfl rfl (by decide) Ta26 rfl rfl (by first | rfl | simp | (simp; omega)) rfl (by first | exact Src.own rfl (by (try simp only [nm, putL, Nat.reduceAdd, cellsOf, cvOf]) <;> rfl) (by first | rfl | simp | (simp; omega)) | exact Src.ro (by simp) (by simp [CV.one, Value.oneCell'])) (by (try simp only [nm, putL, Nat.reduceAdd, cellsOf, cvOf]) <;> rfl) (by omega) (fun _ _ => rfl) (by intro g c2; simp only [List.map_cons, List.map_nil, killO, killV, AV.has, AV.hasL, List.contains_cons, List.contains_nil, Nat.reduceBEq, Bool.or_false, Bool.false_or, Bool.false_eq_true, beq_self_eq_true, if_false, if_true, List.set_cons_zero, List.set_cons_succ, List.nil_append]; rfl)) ?_
          rintro _ _ ⟨_, cc, hcc, rfl, rfl⟩
          refine M1 rfl ?_
          refine al_nil ?_
          repeat with_reducible first | apply S1 | apply S2 | apply S3 | apply S4 | apply S5 | apply S6 | apply S7 | apply S8 | refine S0 rfl ?_ | apply SA | apply SB | apply SC
          refine aw_region ?_
          first | refine RA rfl rfl (by decide) (rd_addn rfl rfl rfl (by omega)) ?_ | refine RA rfl rfl (by decide) (rd_add rfl rfl rfl) ?_
          refine M1 rfl ?_
          refine al_nil ?_
          repeat with_reducible first | apply S1 | apply S2 | apply S3 | apply S4 | apply S5 | apply S6 | apply S7 | apply S8 | refine S0 rfl ?_ | apply SA | apply SB | apply SC
          refine wk_of [some 0, some 1] (fun _ => [(4, .c (prog_r vo out)), (6, .o 0 0 o.length c), (10, .o 1 0 (p ++ [x]).length cc), (49, .o 0 0 o.length c), (50, .c (I o.length)), (51, .c (I (k + 1 : Nat)))]) (fun _ => _) (by decide) (by rw [hE]; first | exact (fun _ hi => absurd hi (Nat.not_lt_zero _)) | exact (fun i hi => by (have hi : i < 1 := hi); (have h0 : i = 0 := (by omega)); (subst h0); rfl)) (by intro _g; (repeat first | exact W0 | apply W1 rfl | exact L0 | apply L1 | exact V1 rfl | exact V2 rfl | exact V3 rfl rfl | exact V4 | exact V5 rfl | exact V3 rfl (by first | (simp; omega) | simp) | exact V1 (by first | (simp; omega) | simp) | exact V6 rfl rfl (by first | rfl | simp) (by simp) rfl | apply V7 | apply V8 | apply V9 | refine V1 ?_ | refine V3 rfl ?_); fail_if_success focus skip) (by intro _g; (repeat first | exact K0 | apply K1 rfl | apply K2 rfl rfl | apply K2 rfl (by simp) | apply K3 | exact L0 | apply L1 | exact V1 rfl | exact V2 rfl | exact V3 rfl rfl | exact V4 | exact V5 rfl | exact V3 rfl (by first | (simp; omega) | simp) | exact V1 (by first | (simp; omega) | simp) | exact V6 rfl rfl (by first | rfl | simp) (by simp) rfl | apply V7 | apply V8 | apply V9); fail_if_success focus skip) (fun _ => ?_)
          exact ⟨m2 - 1, by omega, k + 1, cc, p ++ [x], by omega, by simp; omega, by rw [← hp, dropN_at hx, hsel]; simp, rfl, by rw [List.map_append]; rfl⟩
      by_cases h5 : x.k = 5
      · by_cases hkk : y.k = x.k
        · have hsel : sel x o[k + 1]? = true := by rw [hy1]; exact sel_t hkk (.inr h5)
          repeat with_reducible first | apply S1 | apply S2 | apply S3 | apply S4 | apply S5 | apply S6 | apply S7 | apply S8 | refine S0 rfl ?_ | apply SA | apply SB | apply SC
          refine aw_regionT [(0, none), (1, none), (2, none), (3, none), (4, none), (5, none), (6, none), (7, none), (8, none), (9, none), (10, none), (11, none), (12, none), (13, none), (14, none), (15, none), (16, none), (17, none), (18, none), (19, none), (20, none), (21, none), (22, none), (23, none), (24, none), (25, none)] hMixed (by kernel_rfl) ?_
          refine RT rfl rfl rfl (by decide) (rd_fx rfl Tf36_0 rfl) ?_
          refine RT rfl rfl rfl (by decide) (rd_loadn1 rfl Tk3 rfl (by first | exact CB rfl | exact CQ | exact CA rfl (by first | assumption | (rw [Nat.zero_add]; assumption))) (by (try simp only [nm, putL, Nat.reduceAdd, cellsOf, cvOf]) <;> rfl)) ?_
          first | refine RT rfl rfl rfl (by decide) (rd_eql_t rfl rfl rfl (by omega)) ?_ | refine RT rfl rfl rfl (by decide) (rd_eql_f rfl rfl rfl (by omega)) ?_ | refine RT rfl rfl rfl (by decide) (rd_eql rfl rfl rfl) ?_
          refine M2 rfl rfl ?_
          first | refine G3 rfl rfl rfl (by decide) (rd_fx rfl Tf36_0 rfl) ?_ | refine G4 rfl rfl rfl (by decide) ?_
          first | refine G3 rfl rfl rfl (by decide) (rd_loadn1 rfl Tk3 rfl (by first | exact CB rfl | exact CQ | exact CA rfl (by first | assumption | (rw [Nat.zero_add]; assumption))) (by (try simp only [nm, putL, Nat.reduceAdd, cellsOf, cvOf]) <;> rfl)) ?_ | refine G4 rfl rfl rfl (by decide) ?_
          first | refine G3 rfl rfl rfl (by decide) (rd_eql_t rfl rfl rfl (by omega)) ?_ | refine G3 rfl rfl rfl (by decide) (rd_eql_f rfl rfl rfl (by omega)) ?_ | refine G3 rfl rfl rfl (by decide) (rd_eql rfl rfl rfl) ?_ | refine G4 rfl rfl rfl (by decide) ?_
          refine M2 rfl rfl ?_
          refine M2 rfl rfl ?_
          first | refine G3 rfl rfl rfl (by decide) (rd_move rfl rfl) ?_ | refine G4 rfl rfl rfl (by decide) ?_
          first | refine G3 rfl rfl rfl (by decide) (rd_addy (z := ((k + 1 : Nat) : Int)) rfl rfl rfl (by omega) (by omega)) ?_ | refine G4 rfl rfl rfl (by decide) ?_
          first | refine G3 rfl rfl rfl (by decide) (rd_move rfl rfl) ?_ | refine G4 rfl rfl rfl (by decide) ?_
          first | refine G3 rfl rfl rfl (by decide) (rd_lx rfl Te26 rfl) ?_ | refine G4 rfl rfl rfl (by decide) ?_
          first | refine G3 rfl rfl rfl (by decide) (rd_lss_t rfl rfl rfl (by omega)) ?_ | refine G3 rfl rfl rfl (by decide) (rd_lss_f rfl rfl rfl (by omega)) ?_ | refine G3 rfl rfl rfl (by decide) (rd_lss rfl rfl rfl) ?_ | refine G4 rfl rfl rfl (by decide) ?_
          refine M2 rfl rfl ?_
          refine M2 rfl rfl ?_
          first | refine G3 rfl rfl rfl (by decide) (rd_move rfl rfl) ?_ | refine G4 rfl rfl rfl (by decide) ?_
          first | refine G3 rfl rfl rfl (by decide) (rd_move rfl rfl) ?_ | refine G4 rfl rfl rfl (by decide) ?_
          first | refine G3 rfl rfl rfl (by decide) (rd_addy (z := ((k + 1 : Nat) : Int)) rfl rfl rfl (by omega) (by omega)) ?_ | refine G4 rfl rfl rfl (by decide) ?_
          first | refine G3 rfl rfl rfl (by decide) (rd_index rfl Te26 rfl rfl rfl (by first | rfl | omega) (by omega)) ?_ | refine G3 rfl rfl rfl (by decide) (rd_indexq rfl Te26 rfl rfl (by first | rfl | omega) (by assumption) rfl) ?_ | refine G4 rfl rfl rfl (by decide) ?_
          first | refine G3 rfl rfl rfl (by decide) (rd_fx rfl Tf36_0 rfl) ?_ | refine G4 rfl rfl rfl (by decide) ?_
          first | refine G3 rfl rfl rfl (by decide) (rd_loadn1 rfl Tk3 rfl (by first | exact CB rfl | exact CQ | exact CA rfl (by first | assumption | (rw [Nat.zero_add]; assumption))) (by (try simp only [nm, putL, Nat.reduceAdd, cellsOf, cvOf]) <;> rfl)) ?_ | refine G4 rfl rfl rfl (by decide) ?_
          first | refine G3 rfl rfl rfl (by decide) (rd_fx rfl Tf36_0 rfl) ?_ | refine G4 rfl rfl rfl (by decide) ?_
          first | refine G3 rfl rfl rfl (by decide) (rd_loadn1 rfl Tk3 rfl (by first | exact CB rfl | exact CQ | exact CA rfl (by first | assumption | (rw [Nat.zero_add]; assumption))) (by (try simp only [nm, putL, Nat.reduceAdd, cellsOf, cvOf]) <;> rfl)) ?_ | refine G4 rfl rfl rfl (by decide) ?_
          first | refine G3 rfl rfl rfl (by decide) (rd_eql_t rfl rfl rfl (by omega)) ?_ | refine G3 rfl rfl rfl (by decide) (rd_eql_f rfl rfl rfl (by omega)) ?_ | refine G3 rfl rfl rfl (by decide) (rd_eql rfl rfl rfl) ?_ | refine G4 rfl rfl rfl (by decide) ?_
          refine M2 rfl rfl ?_
          refine at_nil ?_
          repeat with_reducible first | apply S1 | apply S2 | apply S3 | apply S4 | apply S5 | apply S6 | apply S7 | apply S8 | refine S0 rfl ?_ | apply SA | apply SB | apply SC
          refine aw_cond_t rfl ?_
          repeat with_reducible first | apply S1 | apply S2 | apply S3 | apply S4 | apply S5 | apply S6 | apply S7 | apply S8 | refine S0 rfl ?_ | apply SA | apply SB | apply SC
          refine aw_region ?_
          first | refine RA rfl rfl (by decide) (rd_addn rfl rfl rfl (by omega)) ?_ | refine RA rfl rfl (by decide) (rd_add rfl rfl rfl) ?_
          refine M1 rfl ?_
          refine al_nil ?_
          repeat with_reducible first | apply S1 | apply S2 | apply S3 | apply S4 | apply S5 | apply S6 | apply S7 | apply S8 | refine S0 rfl ?_ | apply SA | apply SB | apply SC
          refine wk_of [some 0, some 1] (fun _ => [(4, .c (prog_r vo out)), (6, .o 0 0 o.length c), (10, .o 1 0 p.length c2), (49, .o 0 0 o.length c), (50, .c (I o.length)), (51, .c (I (k + 1 : Nat)))]) (fun _ => _) (by decide) (by rw [hE]; first | exact (fun _ hi => absurd hi (Nat.not_lt_zero _)) | exact (fun i hi => by (have hi : i < 1 := hi); (have h0 : i = 0 := (by omega)); (subst h0); rfl)) (by intro _g; (repeat first | exact W0 | apply W1 rfl | exact L0 | apply L1 | exact V1 rfl | exact V2 rfl | exact V3 rfl rfl | exact V4 | exact V5 rfl | exact V3 rfl (by first | (simp; omega) | simp) | exact V1 (by first | (simp; omega) | simp) | exact V6 rfl rfl (by first | rfl | simp) (by simp) rfl | apply V7 | apply V8 | apply V9 | refine V1 ?_ | refine V3 rfl ?_); fail_if_success focus skip) (by intro _g; (repeat first | exact K0 | apply K1 rfl | apply K2 rfl rfl | apply K2 rfl (by simp) | apply K3 | exact L0 | apply L1 | exact V1 rfl | exact V2 rfl | exact V3 rfl rfl | exact V4 | exact V5 rfl | exact V3 rfl (by first | (simp; omega) | simp) | exact V1 (by first | (simp; omega) | simp) | exact V6 rfl rfl (by first | rfl | simp) (by simp) rfl | apply V7 | apply V8 | apply V9); fail_if_success focus skip) (fun _ => ?_)
          exact ⟨m2 - 1, by omega, k + 1, c2, p, by omega, by omega, by rw [← hp, dropN_at hx, hsel]; rfl, rfl, rfl⟩
        · have hsel : sel x o[k + 1]? = false := by rw [hy1]; exact sel_f hkk
          repeat with_reducible first | apply S1 | apply S2 | apply S3 | apply S4 | apply S5 | apply S6 | apply S7 | apply S8 | refine S0 rfl ?_ | apply SA | apply SB | apply SC
          refine aw_regionT [(0, none), (1, none), (2, none), (3, none), (4, none), (5, none), (6, none), (7, none), (8, none), (9, none), (10, none), (11, none), (12, none), (13, none), (14, none), (15, none), (16, none), (17, none), (18, none), (19, none), (20, none), (21, none), (22, none), (23, none), (24, none), (25, none)] hMixed (by kernel_rfl) ?_
          refine RT rfl rfl rfl (by decide) (rd_fx rfl Tf36_0 rfl) ?_
          refine RT rfl rfl rfl (by decide) (rd_loadn1 rfl Tk3 rfl (by first | exact CB rfl | exact CQ | exact CA rfl (by first | assumption | (rw [Nat.zero_add]; assumption))) (by (try simp only [nm, putL, Nat.reduceAdd, cellsOf, cvOf]) <;> rfl)) ?_
          first | refine RT rfl rfl rfl (by decide) (rd_eql_t rfl rfl rfl (by omega)) ?_ | refine RT rfl rfl rfl (by decide) (rd_eql_f rfl rfl rfl (by omega)) ?_ | refine RT rfl rfl rfl (by decide) (rd_eql rfl rfl rfl) ?_
          refine M2 rfl rfl ?_
          first | refine G3 rfl rfl rfl (by decide) (rd_fx rfl Tf36_0 rfl) ?_ | refine G4 rfl rfl rfl (by decide) ?_
          first | refine G3 rfl rfl rfl (by decide) (rd_loadn1 rfl Tk3 rfl (by first | exact CB rfl | exact CQ | exact CA rfl (by first | assumption | (rw [Nat.zero_add]; assumption))) (by (try simp only [nm, putL, Nat.reduceAdd, cellsOf, cvOf]) <;> rfl)) ?_ | refine G4 rfl rfl rfl (by decide) ?_
          first | refine G3 rfl rfl rfl (by decide) (rd_eql_t rfl rfl rfl (by omega)) ?_ | refine G3 rfl rfl rfl (by decide) (rd_eql_f rfl rfl rfl (by omega)) ?_ | refine G3 rfl rfl rfl (by decide) (rd_eql rfl rfl rfl) ?_ | refine G4 rfl rfl rfl (by decide) ?_
          refine M2 rfl rfl ?_
          refine M2 rfl rfl ?_
          first | refine G3 rfl rfl rfl (by decide) (rd_move rfl rfl) ?_ | refine G4 rfl rfl rfl (by decide) ?_
          first | refine G3 rfl rfl rfl (by decide) (rd_addy (z := ((k + 1 : Nat) : Int)) rfl rfl rfl (by omega) (by omega)) ?_ | refine G4 rfl rfl rfl (by decide) ?_
          first | refine G3 rfl rfl rfl (by decide) (rd_move rfl rfl) ?_ | refine G4 rfl rfl rfl (by decide) ?_
          first | refine G3 rfl rfl rfl (by decide) (rd_lx rfl Te26 rfl) ?_ | refine G4 rfl rfl rfl (by decide) ?_
          first | refine G3 rfl rfl rfl (by decide) (rd_lss_t rfl rfl rfl (by omega)) ?_ | refine G3 rfl rfl rfl (by decide) (rd_lss_f rfl rfl rfl (by omega)) ?_ | refine G3 rfl rfl rfl (by decide) (rd_lss rfl rfl rfl) ?_ | refine G4 rfl rfl rfl (by decide) ?_
          refine M2 rfl rfl ?_
          refine M2 rfl rfl ?_
          first | refine G3 rfl rfl rfl (by decide) (rd_move rfl rfl) ?_ | refine G4 rfl rfl rfl (by decide) ?_
          first | refine G3 rfl rfl rfl (by decide) (rd_move rfl rfl) ?_ | refine G4 rfl rfl rfl (by decide) ?_
          first | refine G3 rfl rfl rfl (by decide) (rd_addy (z := ((k + 1 : Nat) : Int)) rfl rfl rfl (by omega) (by omega)) ?_ | refine G4 rfl rfl rfl (by decide) ?_
          first | refine G3 rfl rfl rfl (by decide) (rd_index rfl Te26 rfl rfl rfl (by first | rfl | omega) (by omega)) ?_ | refine G3 rfl rfl rfl (by decide) (rd_indexq rfl Te26 rfl rfl (by first | rfl | omega) (by assumption) rfl) ?_ | refine G4 rfl rfl rfl (by decide) ?_
          first | refine G3 rfl rfl rfl (by decide) (rd_fx rfl Tf36_0 rfl) ?_ | refine G4 rfl rfl rfl (by decide) ?_
          first | refine G3 rfl rfl rfl (by decide) (rd_loadn1 rfl Tk3 rfl (by first | exact CB rfl | exact CQ | exact CA rfl (by first | assumption | (rw [Nat.zero_add]; assumption))) (by (try simp only [nm, putL, Nat.reduceAdd, cellsOf, cvOf]) <;> rfl)) ?_ | refine G4 rfl rfl rfl (by decide) ?_
          first | refine G3 rfl rfl rfl (by decide) (rd_fx rfl Tf36_0 rfl) ?_ | refine G4 rfl rfl rfl (by decide) ?_
          first | refine G3 rfl rfl rfl (by decide) (rd_loadn1 rfl Tk3 rfl (by first | exact CB rfl | exact CQ | exact CA rfl (by first | assumption | (rw [Nat.zero_add]; assumption))) (by (try simp only [nm, putL, Nat.reduceAdd, cellsOf, cvOf]) <;> rfl)) ?_ | refine G4 rfl rfl rfl (by decide) ?_
          first | refine G3 rfl rfl rfl (by decide) (rd_eql_t rfl rfl rfl (by omega)) ?_ | refine G3 rfl rfl rfl (by decide) (rd_eql_f rfl rfl rfl (by omega)) ?_ | refine G3 rfl rfl rfl (by decide) (rd_eql rfl rfl rfl) ?_ | refine G4 rfl rfl rfl (by decide) ?_
          refine M2 rfl rfl ?_
          refine at_nil ?_
          repeat with_reducible first | apply S1 | apply S2 | apply S3 | apply S4 | apply S5 | apply S6 | apply S7 | apply S8 | refine S0 rfl ?_ | apply SA | apply SB | apply SC
          refine aw_cond_f rfl ?_
          repeat with_reducible first | apply S1 | apply S2 | apply S3 | apply S4 | apply S5 | apply S6 | apply S7 | apply S8 | refine S0 rfl ?_ | apply SA | apply SB | apply SC
          refine aw_region ?_
          refine M1 rfl ?_
          refine RA rfl rfl (by decide) (rd_loadn rfl Tk36 rfl (by first | exact CB rfl | exact CQ | exact CA rfl (by first | assumption | (rw [Nat.zero_add]; assumption))) (by (try simp only [nm, putL, Nat.reduceAdd, cellsOf, cvOf]) <;> rfl) (by simp)) ?_
          refine EA rfl (ef_buildSlicen rfl rfl (by decide) Te26 (.cons rfl rfl (.nil _)) rfl Tz36 rfl rfl (by simp) (by simp) (by (try simp only [nm, putL, Nat.reduceAdd, cellsOf, cvOf]) <;> rfl) (by (try simp only [nm, putL, Nat.reduceAdd, cellsOf, cvOf]) <;> rfl)) ?_
          refine al_ef rfl (ef_appn rfl rfl (by decide) Ta26 rfl rfl (by first | rfl | simp | (simp; omega)) rfl (by first | exact Src.own rfl (by (try simp only [nm, putL, Nat.reduceAdd, cellsOf, cvOf]) <;> rfl) (by first | rfl | simp | (simp; omega)) | exact Src.ro (by simp) (by simp [CV.one, Value.oneCell'])) (by (try simp only [nm, putL, Nat.reduceAdd, cellsOf, cvOf]) <;> rfl) (by omega) (fun _ _ => rfl) (by intro g c2; simp only [List.map_cons, List.map_nil, killO, killV, AV.has, AV.hasL, List.contains_cons, List.contains_nil, Nat.reduceBEq, Bool.or_false, Bool.false_or, Bool.false_eq_true, beq_self_eq_true, if_false, if_true, List.set_cons_zero, List.set_cons_succ, List.nil_append]; rfl)) ?_
          rintro _ _ ⟨_, cc, hcc, rfl, rfl⟩
          refine M1 rfl ?_
          refine al_nil ?_
          repeat with_reducible first | apply S1 | apply S2 | apply S3 | apply S4 | apply S5 | apply S6 | apply S7 | apply S8 | refine S0 rfl ?_ | apply SA | apply SB | apply SC
          refine aw_region ?_
          first | refine RA rfl rfl (by decide) (rd_addn rfl rfl rfl (by omega)) ?_ | refine RA rfl rfl (by decide) (rd_add rfl rfl rfl) ?_
          refine M1 rfl ?_
          refine al_nil ?_
          repeat with_reducible first | apply S1 | apply S2 | apply S3 | apply S4 | apply S5 | apply S6 | apply S7 | apply S8 | refine S0 rfl ?_ | apply SA | apply SB | apply SC
          refine wk_of [some 0, some 1] (fun _ => [(4, .c (prog_r vo out)), (6, .o 0 0 o.length c), (10, .o 1 0 (p ++ [x]).length cc), (49, .o 0 0 o.length c), (50, .c (I o.length)), (51, .c (I (k + 1 : Nat)))]) (fun _ => _) (by decide) (by rw [hE]; first | exact (fun _ hi => absurd hi (Nat.not_lt_zero _)) | exact (fun i hi => by (have hi : i < 1 := hi); (have h0 : i = 0 := (by omega)); (subst h0); rfl)) (by intro _g; (repeat first | exact W0 | apply W1 rfl | exact L0 | apply L1 | exact V1 rfl | exact V2 rfl | exact V3 rfl rfl | exact V4 | exact V5 rfl | exact V3 rfl (by first | (simp; omega) | simp) | exact V1 (by first | (simp; omega) | simp) | exact V6 rfl rfl (by first | rfl | simp) (by simp) rfl | apply V7 | apply V8 | apply V9 | refine V1 ?_ | refine V3 rfl ?_); fail_if_success focus skip) (by intro _g; (repeat first | exact K0 | apply K1 rfl | apply K2 rfl rfl | apply K2 rfl (by simp) | apply K3 | exact L0 | apply L1 | exact V1 rfl | exact V2 rfl | exact V3 rfl rfl | exact V4 | exact V5 rfl | exact V3 rfl (by first | (simp; omega) | simp) | exact V1 (by first | (simp; omega) | simp) | exact V6 rfl rfl (by first | rfl | simp) (by simp) rfl | apply V7 | apply V8 | apply V9); fail_if_success focus skip) (fun _ => ?_)
          exact ⟨m2 - 1, by omega, k + 1, cc, p ++ [x], by omega, by simp; omega, by rw [← hp, dropN_at hx, hsel]; simp, rfl, by rw [List.map_append]; rfl⟩
      · have hsel : sel x o[k + 1]? = false := by rw [hy1]; exact sel_g h3 h5
        repeat with_reducible first | apply S1 | apply S2 | apply S3 | apply S4 | apply S5 | apply S6 | apply S7 | apply S8 | refine S0 rfl ?_ | apply SA | apply SB | apply SC
        refine aw_regionT [(0, none), (1, none), (2, none), (3, none), (4, none), (5, none), (6, none), (7, none), (8, none), (9, none), (10, none), (11, none), (12, none), (13, none), (14, none), (15, none), (16, none), (17, none), (18, none), (19, none), (20, none), (21, none), (22, none), (23, none), (24, none), (25, none)] hMixed (by kernel_rfl) ?_
        refine RT rfl rfl rfl (by decide) (rd_fx rfl Tf36_0 rfl) ?_
        refine RT rfl rfl rfl (by decide) (rd_loadn1 rfl Tk3 rfl (by first | exact CB rfl | exact CQ | exact CA rfl (by first | assumption | (rw [Nat.zero_add]; assumption))) (by (try simp only [nm, putL, Nat.reduceAdd, cellsOf, cvOf]) <;> rfl)) ?_
        first | refine RT rfl rfl rfl (by decide) (rd_eql_t rfl rfl rfl (by omega)) ?_ | refine RT rfl rfl rfl (by decide) (rd_eql_f rfl rfl rfl (by omega)) ?_ | refine RT rfl rfl rfl (by decide) (rd_eql rfl rfl rfl) ?_
        refine M2 rfl rfl ?_
        first | refine G3 rfl rfl rfl (by decide) (rd_fx rfl Tf36_0 rfl) ?_ | refine G4 rfl rfl rfl (by decide) ?_
        first | refine G3 rfl rfl rfl (by decide) (rd_loadn1 rfl Tk3 rfl (by first | exact CB rfl | exact CQ | exact CA rfl (by first | assumption | (rw [Nat.zero_add]; assumption))) (by (try simp only [nm, putL, Nat.reduceAdd, cellsOf, cvOf]) <;> rfl)) ?_ | refine G4 rfl rfl rfl (by decide) ?_
        first | refine G3 rfl rfl rfl (by decide) (rd_eql_t rfl rfl rfl (by omega)) ?_ | refine G3 rfl rfl rfl (by decide) (rd_eql_f rfl rfl rfl (by omega)) ?_ | refine G3 rfl rfl rfl (by decide) (rd_eql rfl rfl rfl) ?_ | refine G4 rfl rfl rfl (by decide) ?_
        refine M2 rfl rfl ?_
        refine M2 rfl rfl ?_
        first | refine G3 rfl rfl rfl (by decide) (rd_move rfl rfl) ?_ | refine G4 rfl rfl rfl (by decide) ?_
        first | refine G3 rfl rfl rfl (by decide) (rd_addy (z := ((k + 1 : Nat) : Int)) rfl rfl rfl (by omega) (by omega)) ?_ | refine G4 rfl rfl rfl (by decide) ?_
        first | refine G3 rfl rfl rfl (by decide) (rd_move rfl rfl) ?_ | refine G4 rfl rfl rfl (by decide) ?_
        first | refine G3 rfl rfl rfl (by decide) (rd_lx rfl Te26 rfl) ?_ | refine G4 rfl rfl rfl (by decide) ?_
        first | refine G3 rfl rfl rfl (by decide) (rd_lss_t rfl rfl rfl (by omega)) ?_ | refine G3 rfl rfl rfl (by decide) (rd_lss_f rfl rfl rfl (by omega)) ?_ | refine G3 rfl rfl rfl (by decide) (rd_lss rfl rfl rfl) ?_ | refine G4 rfl rfl rfl (by decide) ?_
        refine M2 rfl rfl ?_
        refine M2 rfl rfl ?_
        first | refine G3 rfl rfl rfl (by decide) (rd_move rfl rfl) ?_ | refine G4 rfl rfl rfl (by decide) ?_
        first | refine G3 rfl rfl rfl (by decide) (rd_move rfl rfl) ?_ | refine G4 rfl rfl rfl (by decide) ?_
        first | refine G3 rfl rfl rfl (by decide) (rd_addy (z := ((k + 1 : Nat) : Int)) rfl rfl rfl (by omega) (by omega)) ?_ | refine G4 rfl rfl rfl (by decide) ?_
        first | refine G3 rfl rfl rfl (by decide) (rd_index rfl Te26 rfl rfl rfl (by first | rfl | omega) (by omega)) ?_ | refine G3 rfl rfl rfl (by decide) (rd_indexq rfl Te26 rfl rfl (by first | rfl | omega) (by assumption) rfl) ?_ | refine G4 rfl rfl rfl (by decide) ?_
        first | refine G3 rfl rfl rfl (by decide) (rd_fx rfl Tf36_0 rfl) ?_ | refine G4 rfl rfl rfl (by decide) ?_
        first | refine G3 rfl rfl rfl (by decide) (rd_loadn1 rfl Tk3 rfl (by first | exact CB rfl | exact CQ | exact CA rfl (by first | assumption | (rw [Nat.zero_add]; assumption))) (by (try simp only [nm, putL, Nat.reduceAdd, cellsOf, cvOf]) <;> rfl)) ?_ | refine G4 rfl rfl rfl (by decide) ?_
        first | refine G3 rfl rfl rfl (by decide) (rd_fx rfl Tf36_0 rfl) ?_ | refine G4 rfl rfl rfl (by decide) ?_
        first | refine G3 rfl rfl rfl (by decide) (rd_loadn1 rfl Tk3 rfl (by first | exact CB rfl | exact CQ | exact CA rfl (by first | assumption | (rw [Nat.zero_add]; assumption))) (by (try simp only [nm, putL, Nat.reduceAdd, cellsOf, cvOf]) <;> rfl)) ?_ | refine G4 rfl rfl rfl (by decide) ?_
        first | refine G3 rfl rfl rfl (by decide) (rd_eql_t rfl rfl rfl (by omega)) ?_ | refine G3 rfl rfl rfl (by decide) (rd_eql_f rfl rfl rfl (by omega)) ?_ | refine G3 rfl rfl rfl (by decide) (rd_eql rfl rfl rfl) ?_ | refine G4 rfl rfl rfl (by decide) ?_
        refine M2 rfl rfl ?_
        refine at_nil ?_
        repeat with_reducible first | apply S1 | apply S2 | apply S3 | apply S4 | apply S5 | apply S6 | apply S7 | apply S8 | refine S0 rfl ?_ | apply SA | apply SB | apply SC
        refine aw_cond_f rfl ?_
        repeat with_reducible first | apply S1 | apply S2 | apply S3 | apply S4 | apply S5 | apply S6 | apply S7 | apply S8 | refine S0 rfl ?_ | apply SA | apply SB | apply SC
        refine aw_region ?_
        refine M1 rfl ?_
        refine RA rfl rfl (by decide) (rd_loadn rfl Tk36 rfl (by first | exact CB rfl | exact CQ | exact CA rfl (by first | assumption | (rw [Nat.zero_add]; assumption))) (by (try simp only [nm, putL, Nat.reduceAdd, cellsOf, cvOf]) <;> rfl) (by simp)) ?_
        refine EA rfl (ef_buildSlicen rfl rfl (by decide) Te26 (.cons rfl rfl (.nil _)) rfl Tz36 rfl rfl (by simp) (by simp) (by (try simp only [nm, putL, Nat.reduceAdd, cellsOf, cvOf]) <;> rfl) (by (try simp only [nm, putL, Nat.reduceAdd, cellsOf, cvOf]) <;> rfl)) ?_
        refine al_ef rfl (ef_appn rfl rfl (by decide) Ta26 rfl rfl (by first | rfl | simp | (simp; omega)) rfl (by first | exact Src.own rfl (by (try simp only [nm, putL, Nat.reduceAdd, cellsOf, cvOf]) <;> rfl) (by first | rfl | simp | (simp; omega)) | exact Src.ro (by simp) (by simp [CV.one, Value.oneCell'])) (by (try simp only [nm, putL, Nat.reduceAdd, cellsOf, cvOf]) <;> rfl) (by omega) (fun _ _ => rfl) (by intro g c2; simp only [List.map_cons, List.map_nil, killO, killV, AV.has, AV.hasL, List.contains_cons, List.contains_nil, Nat.reduceBEq, Bool.or_false, Bool.false_or, Bool.false_eq_true, beq_self_eq_true, if_false, if_true, List.set_cons_zero, List.set_cons_succ, List.nil_append]; rfl)) ?_
        rintro _ _ ⟨_, cc, hcc, rfl, rfl⟩
        refine M1 rfl ?_
        refine al_nil ?_
        repeat with_reducible first | apply S1 | apply S2 | apply S3 | apply S4 | apply S5 | apply S6 | apply S7 | apply S8 | refine S0 rfl ?_ | apply SA | apply SB | apply SC
        refine aw_region ?_
        first | refine RA rfl rfl (by decide) (rd_addn rfl rfl rfl (by omega)) ?_ | refine RA rfl rfl (by decide) (rd_add rfl rfl rfl) ?_
        refine M1 rfl ?_
        refine al_nil ?_
        repeat with_reducible first | apply S1 | apply S2 | apply S3 | apply S4 | apply S5 | apply S6 | apply S7 | apply S8 | refine S0 rfl ?_ | apply SA | apply SB | apply SC
        refine wk_of [some 0, some 1] (fun _ => [(4, .c (prog_r vo out)), (6, .o 0 0 o.length c), (10, .o 1 0 (p ++ [x]).length cc), (49, .o 0 0 o.length c), (50, .c (I o.length)), (51, .c (I (k + 1 : Nat)))]) (fun _ => _) (by decide) (by rw [hE]; first | exact (fun _ hi => absurd hi (Nat.not_lt_zero _)) | exact (fun i hi => by (have hi : i < 1 := hi); (have h0 : i = 0 := (by omega)); (subst h0); rfl)) (by intro _g; (repeat first | exact W0 | apply W1 rfl | exact L0 | apply L1 | exact V1 rfl | exact V2 rfl | exact V3 rfl rfl | exact V4 | exact V5 rfl | exact V3 rfl (by first | (simp; omega) | simp) | exact V1 (by first | (simp; omega) | simp) | exact V6 rfl rfl (by first | rfl | simp) (by simp) rfl | apply V7 | apply V8 | apply V9 | refine V1 ?_ | refine V3 rfl ?_); fail_if_success focus skip) (by intro _g; (repeat first | exact K0 | apply K1 rfl | apply K2 rfl rfl | apply K2 rfl (by simp) | apply K3 | exact L0 | apply L1 | exact V1 rfl | exact V2 rfl | exact V3 rfl rfl | exact V4 | exact V5 rfl | exact V3 rfl (by first | (simp; omega) | simp) | exact V1 (by first | (simp; omega) | simp) | exact V6 rfl rfl (by first | rfl | simp) (by simp) rfl | apply V7 | apply V8 | apply V9); fail_if_success focus skip) (fun _ => ?_)
        exact ⟨m2 - 1, by omega, k + 1, cc, p ++ [x], by omega, by simp; omega, by rw [← hp, dropN_at hx, hsel]; simp, rfl, by rw [List.map_append]; rfl⟩
    · have hsel : sel x o[k + 1]? = false := by rw [List.getElem?_eq_none (by omega)]; rfl
      by_cases h3 : x.k = 3
      · repeat with_reducible first | apply S1 | apply S2 | apply S3 | apply S4 | apply S5 | apply S6 | apply S7 | apply S8 | refine S0 rfl ?_ | apply SA | apply SB | apply SC
        refine aw_regionT [(0, none), (1, none), (2, none), (3, none), (4, none), (5, none), (6, none), (7, none), (8, none), (9, none), (10, none), (11, none), (12, none), (13, none), (14, none), (15, none), (16, none), (17, none), (18, none), (19, none), (20, none), (21, none), (22, none), (23, none), (24, none), (25, none)] hMixed (by kernel_rfl) ?_
        refine RT rfl rfl rfl (by decide) (rd_fx rfl Tf36_0 rfl) ?_
        refine RT rfl rfl rfl (by decide) (rd_loadn1 rfl Tk3 rfl (by first | exact CB rfl | exact CQ | exact CA rfl (by first | assumption | (rw [Nat.zero_add]; assumption))) (by (try simp only [nm, putL, Nat.reduceAdd, cellsOf, cvOf]) <;> rfl)) ?_
        first | refine RT rfl rfl rfl (by decide) (rd_eql_t rfl rfl rfl (by omega)) ?_ | refine RT rfl rfl rfl (by decide) (rd_eql_f rfl rfl rfl (by omega)) ?_ | refine RT rfl rfl rfl (by decide) (rd_eql rfl rfl rfl) ?_
        refine M2 rfl rfl ?_
        first | refine G3 rfl rfl rfl (by decide) (rd_fx rfl Tf36_0 rfl) ?_ | refine G4 rfl rfl rfl (by decide) ?_
        first | refine G3 rfl rfl rfl (by decide) (rd_loadn1 rfl Tk3 rfl (by first | exact CB rfl | exact CQ | exact CA rfl (by first | assumption | (rw [Nat.zero_add]; assumption))) (by (try simp only [nm, putL, Nat.reduceAdd, cellsOf, cvOf]) <;> rfl)) ?_ | refine G4 rfl rfl rfl (by decide) ?_
        first | refine G3 rfl rfl rfl (by decide) (rd_eql_t rfl rfl rfl (by omega)) ?_ | refine G3 rfl rfl rfl (by decide) (rd_eql_f rfl rfl rfl (by omega)) ?_ | refine G3 rfl rfl rfl (by decide) (rd_eql rfl rfl rfl) ?_ | refine G4 rfl rfl rfl (by decide) ?_
        refine M2 rfl rfl ?_
        refine M2 rfl rfl ?_
        first | refine G3 rfl rfl rfl (by decide) (rd_move rfl rfl) ?_ | refine G4 rfl rfl rfl (by decide) ?_
        first | refine G3 rfl rfl rfl (by decide) (rd_addy (z := ((k + 1 : Nat) : Int)) rfl rfl rfl (by omega) (by omega)) ?_ | refine G4 rfl rfl rfl (by decide) ?_
        first | refine G3 rfl rfl rfl (by decide) (rd_move rfl rfl) ?_ | refine G4 rfl rfl rfl (by decide) ?_
        first | refine G3 rfl rfl rfl (by decide) (rd_lx rfl Te26 rfl) ?_ | refine G4 rfl rfl rfl (by decide) ?_
        first | refine G3 rfl rfl rfl (by decide) (rd_lss_t rfl rfl rfl (by omega)) ?_ | refine G3 rfl rfl rfl (by decide) (rd_lss_f rfl rfl rfl (by omega)) ?_ | refine G3 rfl rfl rfl (by decide) (rd_lss rfl rfl rfl) ?_ | refine G4 rfl rfl rfl (by decide) ?_
        refine M2 rfl rfl ?_
        refine M2 rfl rfl ?_
        first | refine G3 rfl rfl rfl (by decide) (rd_move rfl rfl) ?_ | refine G4 rfl rfl rfl (by decide) ?_
        first | refine G3 rfl rfl rfl (by decide) (rd_move rfl rfl) ?_ | refine G4 rfl rfl rfl (by decide) ?_
        first | refine G3 rfl rfl rfl (by decide) (rd_addy (z := ((k + 1 : Nat) : Int)) rfl rfl rfl (by omega) (by omega)) ?_ | refine G4 rfl rfl rfl (by decide) ?_
        first | refine G3 rfl rfl rfl (by decide) (rd_index rfl Te26 rfl rfl rfl (by first | rfl | omega) (by omega)) ?_ | refine G3 rfl rfl rfl (by decide) (rd_indexq rfl Te26 rfl rfl (by first | rfl | omega) (by assumption) rfl) ?_ | refine G4 rfl rfl rfl (by decide) ?_
        first | refine G3 rfl rfl rfl (by decide) (rd_fx rfl Tf36_0 rfl) ?_ | refine G4 rfl rfl rfl (by decide) ?_
        first | refine G3 rfl rfl rfl (by decide) (rd_loadn1 rfl Tk3 rfl (by first | exact CB rfl | exact CQ | exact CA rfl (by first | assumption | (rw [Nat.zero_add]; assumption))) (by (try simp only [nm, putL, Nat.reduceAdd, cellsOf, cvOf]) <;> rfl)) ?_ | refine G4 rfl rfl rfl (by decide) ?_
        first | refine G3 rfl rfl rfl (by decide) (rd_fx rfl Tf36_0 rfl) ?_ | refine G4 rfl rfl rfl (by decide) ?_
        first | refine G3 rfl rfl rfl (by decide) (rd_loadn1 rfl Tk3 rfl (by first | exact CB rfl | exact CQ | exact CA rfl (by first | assumption | (rw [Nat.zero_add]; assumption))) (by (try simp only [nm, putL, Nat.reduceAdd, cellsOf, cvOf]) <;> rfl)) ?_ | refine G4 rfl rfl rfl (by decide) ?_
        first | refine G3 rfl rfl rfl (by decide) (rd_eql_t rfl rfl rfl (by omega)) ?_ | refine G3 rfl rfl rfl (by decide) (rd_eql_f rfl rfl rfl (by omega)) ?_ | refine G3 rfl rfl rfl (by decide) (rd_eql rfl rfl rfl) ?_ | refine G4 rfl rfl rfl (by decide) ?_
        refine M2 rfl rfl ?_
        refine at_nil ?_
        repeat with_reducible first | apply S1 | apply S2 | apply S3 | apply S4 | apply S5 | apply S6 | apply S7 | apply S8 | refine S0 rfl ?_ | apply SA | apply SB | apply SC
        refine aw_cond_f rfl ?_
        repeat with_reducible first | apply S1 | apply S2 | apply S3 | apply S4 | apply S5 | apply S6 | apply S7 | apply S8 | refine S0 rfl ?_ | apply SA | apply SB | apply SC
        refine aw_region ?_
        refine M1 rfl ?_
        refine RA rfl rfl (by decide) (rd_loadn rfl Tk36 rfl (by first | exact CB rfl | exact CQ | exact CA rfl (by first | assumption | (rw [Nat.zero_add]; assumption))) (by (try simp only [nm, putL, Nat.reduceAdd, cellsOf, cvOf]) <;> rfl) (by simp)) ?_
        refine EA rfl (ef_buildSlicen rfl rfl (by decide) Te26 (.cons rfl rfl (.nil _)) rfl Tz36 rfl rfl (by simp) (by simp) (by (try simp only [nm, putL, Nat.reduceAdd, cellsOf, cvOf]) <;> rfl) (by (try simp only [nm, putL, Nat.reduceAdd, cellsOf, cvOf]) <;> rfl)) ?_
        refine al_ef rfl (ef_appn rfl rfl (by decide) Ta26 rfl rfl (by first | rfl | simp | (simp; omega)) rfl (by first | exact Src.own rfl (by (try simp only [nm, putL, Nat.reduceAdd, cellsOf, cvOf]) <;> rfl) (by first | rfl | simp | (simp; omega)) | exact Src.ro (by simp) (by simp [CV.one, Value.oneCell'])) (by (try simp only [nm, putL, Nat.reduceAdd, cellsOf, cvOf]) <;> rfl) (by omega) (fun _ _ => rfl) (by intro g c2; simp only [List.map_cons, List.map_nil, killO, killV, AV.has, AV.hasL, List.contains_cons, List.contains_nil, Nat.reduceBEq, Bool.or_false, Bool.false_or, Bool.false_eq_true, beq_self_eq_true, if_false, if_true, List.set_cons_zero, List.set_cons_succ, List.nil_append]; rfl)) ?_
        rintro _ _ ⟨_, cc, hcc, rfl, rfl⟩
        refine M1 rfl ?_
        refine al_nil ?_
        repeat with_reducible first | apply S1 | apply S2 | apply S3 | apply S4 | apply S5 | apply S6 | apply S7 | apply S8 | refine S0 rfl ?_ | apply SA | apply SB | apply SC
        refine aw_region ?_
        first | refine RA rfl rfl (by decide) (rd_addn rfl rfl rfl (by omega)) ?_ | refine RA rfl rfl (by decide) (rd_add rfl rfl rfl) ?_
        refine M1 rfl ?_
        refine al_nil ?_
        repeat with_reducible first | apply S1 | apply S2 | apply S3 | apply S4 | apply S5 | apply S6 | apply S7 | apply S8 | refine S0 rfl ?_ | apply SA | apply SB | apply SC
        refine wk_of [some 0, some 1] (fun _ => [(4, .c (prog_r vo out)), (6, .o 0 0 o.length c), (10, .o 1 0 (p ++ [x]).length cc), (49, .o 0 0 o.length c), (50, .c (I o.length)), (51, .c (I (k + 1 : Nat)))]) (fun _ => _) (by decide) (by rw [hE]; first | exact (fun _ hi => absurd hi (Nat.not_lt_zero _)) | exact (fun i hi => by (have hi : i < 1 := hi); (have h0 : i = 0 := (by omega)); (subst h0); rfl)) (by intro _g; (repeat first | exact W0 | apply W1 rfl | exact L0 | apply L1 | exact V1 rfl | exact V2 rfl | exact V3 rfl rfl | exact V4 | exact V5 rfl | exact V3 rfl (by first | (simp; omega) | simp) | exact V1 (by first | (simp; omega) | simp) | exact V6 rfl rfl (by first | rfl | simp) (by simp) rfl | apply V7 | apply V8 | apply V9 | refine V1 ?_ | refine V3 rfl ?_); fail_if_success focus skip) (by intro _g; (repeat first | exact K0 | apply K1 rfl | apply K2 rfl rfl | apply K2 rfl (by simp) | apply K3 | exact L0 | apply L1 | exact V1 rfl | exact V2 rfl | exact V3 rfl rfl | exact V4 | exact V5 rfl | exact V3 rfl (by first | (simp; omega) | simp) | exact V1 (by first | (simp; omega) | simp) | exact V6 rfl rfl (by first | rfl | simp) (by simp) rfl | apply V7 | apply V8 | apply V9); fail_if_success focus skip) (fun _ => ?_)
        exact ⟨m2 - 1, by omega, k + 1, cc, p ++ [x], by omega, by simp; omega, by rw [← hp, dropN_at hx, hsel]; simp, rfl, by rw [List.map_append]; rfl⟩
      by_cases h5 : x.k = 5
      · repeat with_reducible first | apply S1 | apply S2 | apply S3 | apply S4 | apply S5 | apply S6 | apply S7 | apply S8 | refine S0 rfl ?_ | apply SA | apply SB | apply SC
        refine aw_regionT [(0, none), (1, none), (2, none), (3, none), (4, none), (5, none), (6, none), (7, none), (8, none), (9, none), (10, none), (11, none), (12, none), (13, none), (14, none), (15, none), (16, none), (17, none), (18, none), (19, none), (20, none), (21, none), (22, none), (23, none), (24, none), (25, none)] hMixed (by kernel_rfl) ?_
        refine RT rfl rfl rfl (by decide) (rd_fx rfl Tf36_0 rfl) ?_
        refine RT rfl rfl rfl (by decide) (rd_loadn1 rfl Tk3 rfl (by first | exact CB rfl | exact CQ | exact CA rfl (by first | assumption | (rw [Nat.zero_add]; assumption))) (by (try simp only [nm, putL, Nat.reduceAdd, cellsOf, cvOf]) <;> rfl)) ?_
        first | refine RT rfl rfl rfl (by decide) (rd_eql_t rfl rfl rfl (by omega)) ?_ | refine RT rfl rfl rfl (by decide) (rd_eql_f rfl rfl rfl (by omega)) ?_ | refine RT rfl rfl rfl (by decide) (rd_eql rfl rfl rfl) ?_
        refine M2 rfl rfl ?_
        first | refine G3 rfl rfl rfl (by decide) (rd_fx rfl Tf36_0 rfl) ?_ | refine G4 rfl rfl rfl (by decide) ?_
        first | refine G3 rfl rfl rfl (by decide) (rd_loadn1 rfl Tk3 rfl (by first | exact CB rfl | exact CQ | exact CA rfl (by first | assumption | (rw [Nat.zero_add]; assumption))) (by (try simp only [nm, putL, Nat.reduceAdd, cellsOf, cvOf]) <;> rfl)) ?_ | refine G4 rfl rfl rfl (by decide) ?_
        first | refine G3 rfl rfl rfl (by decide) (rd_eql_t rfl rfl rfl (by omega)) ?_ | refine G3 rfl rfl rfl (by decide) (rd_eql_f rfl rfl rfl (by omega)) ?_ | refine G3 rfl rfl rfl (by decide) (rd_eql rfl rfl rfl) ?_ | refine G4 rfl rfl rfl (by decide) ?_
        refine M2 rfl rfl ?_
        refine M2 rfl rfl ?_
        first | refine G3 rfl rfl rfl (by decide) (rd_move rfl rfl) ?_ | refine G4 rfl rfl rfl (by decide) ?_
        first | refine G3 rfl rfl rfl (by decide) (rd_addy (z := ((k + 1 : Nat) : Int)) rfl rfl rfl (by omega) (by omega)) ?_ | refine G4 rfl rfl rfl (by decide) ?_
        first | refine G3 rfl rfl rfl (by decide) (rd_move rfl rfl) ?_ | refine G4 rfl rfl rfl (by decide) ?_
        first | refine G3 rfl rfl rfl (by decide) (rd_lx rfl Te26 rfl) ?_ | refine G4 rfl rfl rfl (by decide) ?_
        first | refine G3 rfl rfl rfl (by decide) (rd_lss_t rfl rfl rfl (by omega)) ?_ | refine G3 rfl rfl rfl (by decide) (rd_lss_f rfl rfl rfl (by omega)) ?_ | refine G3 rfl rfl rfl (by decide) (rd_lss rfl rfl rfl) ?_ | refine G4 rfl rfl rfl (by decide) ?_
        refine M2 rfl rfl ?_
        refine M2 rfl rfl ?_
        first | refine G3 rfl rfl rfl (by decide) (rd_move rfl rfl) ?_ | refine G4 rfl rfl rfl (by decide) ?_
        first | refine G3 rfl rfl rfl (by decide) (rd_move rfl rfl) ?_ | refine G4 rfl rfl rfl (by decide) ?_
        first | refine G3 rfl rfl rfl (by decide) (rd_addy (z := ((k + 1 : Nat) : Int)) rfl rfl rfl (by omega) (by omega)) ?_ | refine G4 rfl rfl rfl (by decide) ?_
        first | refine G3 rfl rfl rfl (by decide) (rd_index rfl Te26 rfl rfl rfl (by first | rfl | omega) (by omega)) ?_ | refine G3 rfl rfl rfl (by decide) (rd_indexq rfl Te26 rfl rfl (by first | rfl | omega) (by assumption) rfl) ?_ | refine G4 rfl rfl rfl (by decide) ?_
        first | refine G3 rfl rfl rfl (by decide) (rd_fx rfl Tf36_0 rfl) ?_ | refine G4 rfl rfl rfl (by decide) ?_
        first | refine G3 rfl rfl rfl (by decide) (rd_loadn1 rfl Tk3 rfl (by first | exact CB rfl | exact CQ | exact CA rfl (by first | assumption | (rw [Nat.zero_add]; assumption))) (by (try simp only [nm, putL, Nat.reduceAdd, cellsOf, cvOf]) <;> rfl)) ?_ | refine G4 rfl rfl rfl (by decide) ?_
        first | refine G3 rfl rfl rfl (by decide) (rd_fx rfl Tf36_0 rfl) ?_ | refine G4 rfl rfl rfl (by decide) ?_
        first | refine G3 rfl rfl rfl (by decide) (rd_loadn1 rfl Tk3 rfl (by first | exact CB rfl | exact CQ | exact CA rfl (by first | assumption | (rw [Nat.zero_add]; assumption))) (by (try simp only [nm, putL, Nat.reduceAdd, cellsOf, cvOf]) <;> rfl)) ?_ | refine G4 rfl rfl rfl (by decide) ?_
        first | refine G3 rfl rfl rfl (by decide) (rd_eql_t rfl rfl rfl (by omega)) ?_ | refine G3 rfl rfl rfl (by decide) (rd_eql_f rfl rfl rfl (by omega)) ?_ | refine G3 rfl rfl rfl (by decide) (rd_eql rfl rfl rfl) ?_ | refine G4 rfl rfl rfl (by decide) ?_
        refine M2 rfl rfl ?_
        refine at_nil ?_
        repeat with_reducible first | apply S1 | apply S2 | apply S3 | apply S4 | apply S5 | apply S6 | apply S7 | apply S8 | refine S0 rfl ?_ | apply SA | apply SB | apply SC
        refine aw_cond_f rfl ?_
        repeat with_reducible first | apply S1 | apply S2 | apply S3 | apply S4 | apply S5 | apply S6 | apply S7 | apply S8 | refine S0 rfl ?_ | apply SA | apply SB | apply SC
        refine aw_region ?_
        refine M1 rfl ?_
        refine RA rfl rfl (by decide) (rd_loadn rfl Tk36 rfl (by first | exact CB rfl | exact CQ | exact CA rfl (by first | assumption | (rw [Nat.zero_add]; assumption))) (by (try simp only [nm, putL, Nat.reduceAdd, cellsOf, cvOf]) <;> rfl) (by simp)) ?_
        refine EA rfl (ef_buildSlicen rfl rfl (by decide) Te26 (.cons rfl rfl (.nil _)) rfl Tz36 rfl rfl (by simp) (by simp) (by (try simp only [nm, putL, Nat.reduceAdd, cellsOf, cvOf]) <;> rfl) (by (try simp only [nm, putL, Nat.reduceAdd, cellsOf, cvOf]) <;> rfl)) ?_
        refine al_ef rfl (ef_appn rfl rfl (by decide) Ta26 rfl rfl (by first | rfl | simp | (simp; omega)) rfl (by first | exact Src.own rfl (by (try simp only [nm, putL, Nat.reduceAdd, cellsOf, cvOf]) <;> rfl) (by first | rfl | simp | (simp; omega)) | exact Src.ro (by simp) (by simp [CV.one, Value.oneCell'])) (by (try simp only [nm, putL, Nat.reduceAdd, cellsOf, cvOf]) <;> rfl) (by omega) (fun _ _ => rfl) (by intro g c2; simp only [List.map_cons, List.map_nil, killO, killV, AV.has, AV.hasL, List.contains_cons, List.contains_nil, Nat.reduceBEq, Bool.or_false, Bool.false_or, Bool.false_eq_true, beq_self_eq_true, if_false, if_true, List.set_cons_zero, List.set_cons_succ, List.nil_append]; rfl)) ?_
        rintro _ _ ⟨_, cc, hcc, rfl, rfl⟩
        refine M1 rfl ?_
        refine al_nil ?_
        repeat with_reducible first | apply S1 | apply S2 | apply S3 | apply S4 | apply S5 | apply S6 | apply S7 | apply S8 | refine S0 rfl ?_ | apply SA | apply SB | apply SC
        refine aw_region ?_
        first | refine RA rfl rfl (by decide) (rd_addn rfl rfl rfl (by omega)) ?_ | refine RA rfl rfl (by decide) (rd_add rfl rfl rfl) ?_
        refine M1 rfl ?_
        refine al_nil ?_
        repeat with_reducible first | apply S1 | apply S2 | apply S3 | apply S4 | apply S5 | apply S6 | apply S7 | apply S8 | refine S0 rfl ?_ | apply SA | apply SB | apply SC
        refine wk_of [some 0, some 1] (fun _ => [(4, .c (prog_r vo out)), (6, .o 0 0 o.length c), (10, .o 1 0 (p ++ [x]).length cc), (49, .o 0 0 o.length c), (50, .c (I o.length)), (51, .c (I (k + 1 : Nat)))]) (fun _ => _) (by decide) (by rw [hE]; first | exact (fun _ hi => absurd hi (Nat.not_lt_zero _)) | exact (fun i hi => by (have hi : i < 1 := hi); (have h0 : i = 0 := (by omega)); (subst h0); rfl)) (by intro _g; (repeat first | exact W0 | apply W1 rfl | exact L0 | apply L1 | exact V1 rfl | exact V2 rfl | exact V3 rfl rfl | exact V4 | exact V5 rfl | exact V3 rfl (by first | (simp; omega) | simp) | exact V1 (by first | (simp; omega) | simp) | exact V6 rfl rfl (by first | rfl | simp) (by simp) rfl | apply V7 | apply V8 | apply V9 | refine V1 ?_ | refine V3 rfl ?_); fail_if_success focus skip) (by intro _g; (repeat first | exact K0 | apply K1 rfl | apply K2 rfl rfl | apply K2 rfl (by simp) | apply K3 | exact L0 | apply L1 | exact V1 rfl | exact V2 rfl | exact V3 rfl rfl | exact V4 | exact V5 rfl | exact V3 rfl (by first | (simp; omega) | simp) | exact V1 (by first | (simp; omega) | simp) | exact V6 rfl rfl (by first | rfl | simp) (by simp) rfl | apply V7 | apply V8 | apply V9); fail_if_success focus skip) (fun _ => ?_)
        exact ⟨m2 - 1, by omega, k + 1, cc, p ++ [x], by omega, by simp; omega, by rw [← hp, dropN_at hx, hsel]; simp, rfl, by rw [List.map_append]; rfl⟩
      · repeat with_reducible first | apply S1 | apply S2 | apply S3 | apply S4 | apply S5 | apply S6 | apply S7 | apply S8 | refine S0 rfl ?_ | apply SA | apply SB | apply SC
        refine aw_regionT [(0, none), (1, none), (2, none), (3, none), (4, none), (5, none), (6, none), (7, none), (8, none), (9, none), (10, none), (11, none), (12, none), (13, none), (14, none), (15, none), (16, none), (17, none), (18, none), (19, none), (20, none), (21, none), (22, none), (23, none), (24, none), (25, none)] hMixed (by kernel_rfl) ?_
        refine RT rfl rfl rfl (by decide) (rd_fx rfl Tf36_0 rfl) ?_
        refine RT rfl rfl rfl (by decide) (rd_loadn1 rfl Tk3 rfl (by first | exact CB rfl | exact CQ | exact CA rfl (by first | assumption | (rw [Nat.zero_add]; assumption))) (by (try simp only [nm, putL, Nat.reduceAdd, cellsOf, cvOf]) <;> rfl)) ?_
        first | refine RT rfl rfl rfl (by decide) (rd_eql_t rfl rfl rfl (by omega)) ?_ | refine RT rfl rfl rfl (by decide) (rd_eql_f rfl rfl rfl (by omega)) ?_ | refine RT rfl rfl rfl (by decide) (rd_eql rfl rfl rfl) ?_
        refine M2 rfl rfl ?_
        first | refine G3 rfl rfl rfl (by decide) (rd_fx rfl Tf36_0 rfl) ?_ | refine G4 rfl rfl rfl (by decide) ?_
        first | refine G3 rfl rfl rfl (by decide) (rd_loadn1 rfl Tk3 rfl (by first | exact CB rfl | exact CQ | exact CA rfl (by first | assumption | (rw [Nat.zero_add]; assumption))) (by (try simp only [nm, putL, Nat.reduceAdd, cellsOf, cvOf]) <;> rfl)) ?_ | refine G4 rfl rfl rfl (by decide) ?_
        first | refine G3 rfl rfl rfl (by decide) (rd_eql_t rfl rfl rfl (by omega)) ?_ | refine G3 rfl rfl rfl (by decide) (rd_eql_f rfl rfl rfl (by omega)) ?_ | refine G3 rfl rfl rfl (by decide) (rd_eql rfl rfl rfl) ?_ | refine G4 rfl rfl rfl (by decide) ?_
        refine M2 rfl rfl ?_
        refine M2 rfl rfl ?_
        first | refine G3 rfl rfl rfl (by decide) (rd_move rfl rfl) ?_ | refine G4 rfl rfl rfl (by decide) ?_
        first | refine G3 rfl rfl rfl (by decide) (rd_addy (z := ((k + 1 : Nat) : Int)) rfl rfl rfl (by omega) (by omega)) ?_ | refine G4 rfl rfl rfl (by decide) ?_
        first | refine G3 rfl rfl rfl (by decide) (rd_move rfl rfl) ?_ | refine G4 rfl rfl rfl (by decide) ?_
        first | refine G3 rfl rfl rfl (by decide) (rd_lx rfl Te26 rfl) ?_ | refine G4 rfl rfl rfl (by decide) ?_
        first | refine G3 rfl rfl rfl (by decide) (rd_lss_t rfl rfl rfl (by omega)) ?_ | refine G3 rfl rfl rfl (by decide) (rd_lss_f rfl rfl rfl (by omega)) ?_ | refine G3 rfl rfl rfl (by decide) (rd_lss rfl rfl rfl) ?_ | refine G4 rfl rfl rfl (by decide) ?_
        refine M2 rfl rfl ?_
        refine M2 rfl rfl ?_
        first | refine G3 rfl rfl rfl (by decide) (rd_move rfl rfl) ?_ | refine G4 rfl rfl rfl (by decide) ?_
        first | refine G3 rfl rfl rfl (by decide) (rd_move rfl rfl) ?_ | refine G4 rfl rfl rfl (by decide) ?_
        first | refine G3 rfl rfl rfl (by decide) (rd_addy (z := ((k + 1 : Nat) : Int)) rfl rfl rfl (by omega) (by omega)) ?_ | refine G4 rfl rfl rfl (by decide) ?_
        first | refine G3 rfl rfl rfl (by decide) (rd_index rfl Te26 rfl rfl rfl (by first | rfl | omega) (by omega)) ?_ | refine G3 rfl rfl rfl (by decide) (rd_indexq rfl Te26 rfl rfl (by first | rfl | omega) (by assumption) rfl) ?_ | refine G4 rfl rfl rfl (by decide) ?_
        first | refine G3 rfl rfl rfl (by decide) (rd_fx rfl Tf36_0 rfl) ?_ | refine G4 rfl rfl rfl (by decide) ?_
        first | refine G3 rfl rfl rfl (by decide) (rd_loadn1 rfl Tk3 rfl (by first | exact CB rfl | exact CQ | exact CA rfl (by first | assumption | (rw [Nat.zero_add]; assumption))) (by (try simp only [nm, putL, Nat.reduceAdd, cellsOf, cvOf]) <;> rfl)) ?_ | refine G4 rfl rfl rfl (by decide) ?_
        first | refine G3 rfl rfl rfl (by decide) (rd_fx rfl Tf36_0 rfl) ?_ | refine G4 rfl rfl rfl (by decide) ?_
        first | refine G3 rfl rfl rfl (by decide) (rd_loadn1 rfl Tk3 rfl (by first | exact CB rfl | exact CQ | exact CA rfl (by first | assumption | (rw [Nat.zero_add]; assumption))) (by (try simp only [nm, putL, Nat.reduceAdd, cellsOf, cvOf]) <;> rfl)) ?_ | refine G4 rfl rfl rfl (by decide) ?_
        first | refine G3 rfl rfl rfl (by decide) (rd_eql_t rfl rfl rfl (by omega)) ?_ | refine G3 rfl rfl rfl (by decide) (rd_eql_f rfl rfl rfl (by omega)) ?_ | refine G3 rfl rfl rfl (by decide) (rd_eql rfl rfl rfl) ?_ | refine G4 rfl rfl rfl (by decide) ?_
        refine M2 rfl rfl ?_
        refine at_nil ?_
        repeat with_reducible first | apply S1 | apply S2 | apply S3 | apply S4 | apply S5 | apply S6 | apply S7 | apply S8 | refine S0 rfl ?_ | apply SA | apply SB | apply SC
        refine aw_cond_f rfl ?_
        repeat with_reducible first | apply S1 | apply S2 | apply S3 | apply S4 | apply S5 | apply S6 | apply S7 | apply S8 | refine S0 rfl ?_ | apply SA | apply SB | apply SC
        refine aw_region ?_
        refine M1 rfl ?_
        refine RA rfl rfl (by decide) (rd_loadn rfl Tk36 rfl (by first | exact CB rfl | exact CQ | exact CA rfl (by first | assumption | (rw [Nat.zero_add]; assumption))) (by (try simp only [nm, putL, Nat.reduceAdd, cellsOf, cvOf]) <;> rfl) (by simp)) ?_
        refine EA rfl (ef_buildSlicen rfl rfl (by decide) Te26 (.cons rfl rfl (.nil _)) rfl Tz36 rfl rfl (by simp) (by simp) (by (try simp only [nm, putL, Nat.reduceAdd, cellsOf, cvOf]) <;> rfl) (by (try simp only [nm, putL, Nat.reduceAdd, cellsOf, cvOf]) <;> rfl)) ?_
        refine al_ef rfl (ef_appn rfl rfl (by decide) Ta26 rfl rfl (by first | rfl | simp | (simp; omega)) rfl (by first | exact Src.own rfl (by (try simp only [nm, putL, Nat.reduceAdd, cellsOf, cvOf]) <;> rfl) (by first | rfl | simp | (simp; omega)) | exact Src.ro (by simp) (by simp [CV.one, Value.oneCell'])) (by (try simp only [nm, putL, Nat.reduceAdd, cellsOf, cvOf]) <;> rfl) (by omega) (fun _ _ => rfl) (by intro g c2; simp only [List.map_cons, List.map_nil, killO, killV, AV.has, AV.hasL, List.contains_cons, List.contains_nil, Nat.reduceBEq, Bool.or_false, Bool.false_or, Bool.false_eq_true, beq_self_eq_true, if_false, if_true, List.set_cons_zero, List.set_cons_succ, List.nil_append]; rfl)) ?_
        rintro _ _ ⟨_, cc, hcc, rfl, rfl⟩
        refine M1 rfl ?_
        refine al_nil ?_
        repeat with_reducible first | apply S1 | apply S2 | apply S3 | apply S4 | apply S5 | apply S6 | apply S7 | apply S8 | refine S0 rfl ?_ | apply SA | apply SB | apply SC
        refine aw_region ?_
        first | refine RA rfl rfl (by decide) (rd_addn rfl rfl rfl (by omega)) ?_ | refine RA rfl rfl (by decide) (rd_add rfl rfl rfl) ?_
        refine M1 rfl ?_
        refine al_nil ?_
        repeat with_reducible first | apply S1 | apply S2 | apply S3 | apply S4 | apply S5 | apply S6 | apply S7 | apply S8 | refine S0 rfl ?_ | apply SA | apply SB | apply SC
        refine wk_of [some 0, some 1] (fun _ => [(4, .c (prog_r vo out)), (6, .o 0 0 o.length c), (10, .o 1 0 (p ++ [x]).length cc), (49, .o 0 0 o.length c), (50, .c (I o.length)), (51, .c (I (k + 1 : Nat)))]) (fun _ => _) (by decide) (by rw [hE]; first | exact (fun _ hi => absurd hi (Nat.not_lt_zero _)) | exact (fun i hi => by (have hi : i < 1 := hi); (have h0 : i = 0 := (by omega)); (subst h0); rfl)) (by intro _g; (repeat first | exact W0 | apply W1 rfl | exact L0 | apply L1 | exact V1 rfl | exact V2 rfl | exact V3 rfl rfl | exact V4 | exact V5 rfl | exact V3 rfl (by first | (simp; omega) | simp) | exact V1 (by first | (simp; omega) | simp) | exact V6 rfl rfl (by first | rfl | simp) (by simp) rfl | apply V7 | apply V8 | apply V9 | refine V1 ?_ | refine V3 rfl ?_); fail_if_success focus skip) (by intro _g; (repeat first | exact K0 | apply K1 rfl | apply K2 rfl rfl | apply K2 rfl (by simp) | apply K3 | exact L0 | apply L1 | exact V1 rfl | exact V2 rfl | exact V3 rfl rfl | exact V4 | exact V5 rfl | exact V3 rfl (by first | (simp; omega) | simp) | exact V1 (by first | (simp; omega) | simp) | exact V6 rfl rfl (by first | rfl | simp) (by simp) rfl | apply V7 | apply V8 | apply V9); fail_if_success focus skip) (fun _ => ?_)
        exact ⟨m2 - 1, by omega, k + 1, cc, p ++ [x], by omega, by simp; omega, by rw [← hp, dropN_at hx, hsel]; simp, rfl, by rw [List.map_append]; rfl⟩
  obtain rfl : k = o.length := by omega
  rw [List.drop_eq_nil_of_le (Nat.le_refl _), dropN, List.append_nil] at hp
  obtain rfl : p = shortF out := by rw [hp, hJ2]; rfl
  repeat with_reducible first | apply S1 | apply S2 | apply S3 | apply S4 | apply S5 | apply S6 | apply S7 | apply S8 | refine S0 rfl ?_ | apply SA | apply SB | apply SC
  refine aw_region ?_
  refine M1 rfl ?_
  refine RA rfl rfl (by decide) (rd_lx rfl Te26 rfl) ?_
  refine M1 rfl ?_
  refine RA rfl rfl (by decide) (rd_lx rfl Te26 rfl) ?_
  first | refine RA rfl rfl (by decide) (rd_eql_t rfl rfl rfl (by omega)) ?_ | refine RA rfl rfl (by decide) (rd_eql_f rfl rfl rfl (by omega)) ?_ | refine RA rfl rfl (by decide) (rd_eql rfl rfl rfl) ?_
  refine al_nil ?_
  repeat with_reducible first | apply S1 | apply S2 | apply S3 | apply S4 | apply S5 | apply S6 | apply S7 | apply S8 | refine S0 rfl ?_ | apply SA | apply SB | apply SC
  refine aw_if rfl (fun he => ?_) (fun hn => ?_)
  · have hS := shortJ_end hJ (by omega)
    repeat with_reducible first | apply S1 | apply S2 | apply S3 | apply S4 | apply S5 | apply S6 | apply S7 | apply S8 | refine S0 rfl ?_ | apply SA | apply SB | apply SC
    refine aw_region ?_
    refine M1 rfl ?_
    refine M1 rfl ?_
    refine M1 rfl ?_
    refine al_nil ?_
    repeat with_reducible first | apply S1 | apply S2 | apply S3 | apply S4 | apply S5 | apply S6 | apply S7 | apply S8 | refine S0 rfl ?_ | apply SA | apply SB | apply SC
    exact aret_2 [] _ rfl rfl rfl rfl rfl (by decide) (fun _ hi => absurd hi (Nat.not_lt_zero _)) (fun _ => .nil) ⟨vo, by rw [if_pos h0, h0, ← hS], rfl⟩
  · obtain ⟨hJ3, hlt⟩ := shortJ_next hJ (by omega)
    repeat with_reducible first | apply S1 | apply S2 | apply S3 | apply S4 | apply S5 | apply S6 | apply S7 | apply S8 | refine S0 rfl ?_ | apply SA | apply SB | apply SC
    refine aw_region ?_
    refine M1 rfl ?_
    refine M1 rfl ?_
    refine al_nil ?_
    repeat with_reducible first | apply S1 | apply S2 | apply S3 | apply S4 | apply S5 | apply S6 | apply S7 | apply S8 | refine S0 rfl ?_ | apply SA | apply SB | apply SC
    exact wk_of [] (fun g => [(4, .c (prog_r (g (.o 1 0 (shortF out).length c2)) (shortF out)))]) (fun _ => _) (by decide) (by rw [hE]; exact (fun _ hi => absurd hi (Nat.not_lt_zero _))) (fun _g => .cons rfl (.frz rfl rfl (by rw [List.drop_zero, List.take_of_length_le (by simp)]) (by simp) rfl) .nil) (fun _ => .nil) (fun g => ⟨(shortF out).length, by omega, shortF out, _, rfl, hJ3, rfl, rfl⟩)
end Go.Proofs.Ytpbedckdnoogpaa
