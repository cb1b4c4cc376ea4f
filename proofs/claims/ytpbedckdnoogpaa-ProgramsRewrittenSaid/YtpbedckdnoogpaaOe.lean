/- Joined and JoinedOf, by value. -/
import Derived.Test.YtpbedckdnoogpaaOd
import Derived.Test.YtpbedckdnoogpaaLa
set_option linter.unusedSimpArgs false
set_option linter.unusedVariables false
namespace Go.Proofs.Ytpbedckdnoogpaa
open Go Go.RowKit
set_option maxRecDepth 100000
/-- A scalar field's place in a struct's cells. -/
def fieldSc (P : Program) (t : TypeId) (f : Nat) : Option Nat :=
  match P.underlying t with
  | some (.struct fs) => match fs[f]? with
    | some g => match ldk P g.type with
      | some none => some g.offset
      | _ => none
    | none => none
  | _ => none
theorem rd_fieldv {P : Program} {N : Nat} {E : Env} {F : Fm} {H : List OB} {o : Oper} {t : TypeId} {x : Operand} {f off : Nat} {l : List AV} {v : AV} (ho : o.op = .field t x f) (hx : ev F x = some (.a l)) (ht : fieldSc P t f = some off) (hv : l[off]? = some v) : Rd P N E o F H v := fun S ρ a w hR => by
  obtain ⟨h1, h2⟩ := hR.ev hx
  unfold fieldSc at ht
  cases hu : P.underlying t with
  | none => rw [hu] at ht; cases ht
  | some d =>
    rw [hu] at ht
    cases d <;> simp only [reduceCtorEq] at ht
    rename_i fs
    cases hf : fs[f]? with
    | none => rw [hf] at ht; cases ht
    | some g =>
      rw [hf] at ht
      simp only at ht
      split at ht
      · rename_i hk
        injection ht with ht
        subst ht
        have hu' : (underlying t).run P w = .ok (.struct fs) w := by unfold underlying; simp [hu]
        cases h2 with
        | a h3 =>
          refine ⟨?_, h3 v (List.mem_of_getElem? hv)⟩
          have hd : (AV.a l).den ρ H = .agg (l.map (AV.den ρ H)).toArray := by rw [AV.den, AV.denL_eq]
          have hg : (l.map (AV.den ρ H)).toArray[g.offset]? = some (v.den ρ H) := by rw [List.getElem?_toArray, List.getElem?_map, hv]; rfl
          simp only [execOp, ho, h1, hd, Instr.field, Sem.run_bind, hu', Result.andThen_ok, hf, asAgg, Sem.run_pure, part, (ldk_none (w := w) hk).1, Bool.false_eq_true, if_false, hg]
      · cases ht
theorem Tv42_7 : fieldSc Try.prog 42 7 = some 7 := by kernel_rfl
/-- What lies between two programs that are joined. -/
def midS (a : List Step) : List Step := if (lastS a).rel then [⟨1, 0, 0, 0, 0, 0⟩] else []
def joinS (a b : List Step) : List Step := a ++ midS a ++ b
def joinF (a b : List Step) : Int := if 5000 < (joinS a b).length then 2 else 0
def joinedF (a b : List Step) : Int := if progF a ≠ 0 then progF a else if progF b ≠ 0 then progF b else joinF a b
theorem midS_len (a : List Step) : (midS a).length ≤ 1 := by unfold midS; split <;> simp
theorem joinS_len (a b : List Step) : (joinS a b).length = a.length + (midS a).length + b.length := by simp [joinS]; omega
theorem joined_a (a b : List Step) (va vb : Value) (ha : a.length ≤ 1000000) (hb : b.length ≤ 1000000) (hoa : ∀ s ∈ a, s.ok) : ACalls Try.prog 65 [.c (prog_r va a), .c (prog_r vb b)] [] fun u H => ∃ v', u = .t [.c (prog_r v' (if joinedF a b = 0 then joinS a b else [])), .c (I (joinedF a b))] ∧ H = [] := by
  have hmid := midS_len a
  have hjl := joinS_len a b
  have ea : (a.map Step.row).length = a.length := by simp
  refine acalls_of (N := 47) Try.func65 rfl rfl (by simp) fun E hE => ?_
  repeat with_reducible first | apply S1 | apply S2 | apply S3 | apply S4 | apply S5 | apply S6 | apply S7 | apply S8 | refine S0 rfl ?_ | apply SA | apply SB | apply SC
  refine aw_region ?_
  refine M1 rfl ?_
  refine M1 rfl ?_
  refine al_nil ?_
  repeat with_reducible first | apply S1 | apply S2 | apply S3 | apply S4 | apply S5 | apply S6 | apply S7 | apply S8 | refine S0 rfl ?_ | apply SA | apply SB | apply SC
  refine aw_region ?_
  refine M1 rfl ?_
  refine M1 rfl ?_
  refine EA rfl (ef_buildSlicen rfl rfl (by decide) Te120 (.cons rfl rfl (.cons rfl rfl (.nil _))) rfl Tz26 rfl rfl (by simp) (by simp) (by (try simp only [nm, putL, Nat.reduceAdd, cellsOf, cvOf]) <;> rfl) (by (try simp only [nm, putL, Nat.reduceAdd, cellsOf, cvOf]) <;> rfl)) ?_
  refine RA rfl rfl (by decide) (rd_lx rfl Te120 rfl) ?_
  refine M1 rfl ?_
  refine al_nil ?_
  repeat with_reducible first | apply S1 | apply S2 | apply S3 | apply S4 | apply S5 | apply S6 | apply S7 | apply S8 | refine S0 rfl ?_ | apply SA | apply SB | apply SC
  refine aw_loopw (fun m F H => ∃ (k : Nat), m + k = 2 ∧ (1 ≤ k → progF a = 0) ∧ (2 ≤ k → progF b = 0) ∧ F = [(0, .c (prog_r va a)), (1, .c (prog_r vb b)), (14, .o 0 0 2 2), (15, .c (I (2 : Nat))), (16, .c (I k))] ∧ H = [.arr 26 1 2 [[prog_r va a], [prog_r vb b]]]) ?_ ?_
  · refine wk_of [some 0] (fun _ => [(0, .c (prog_r va a)), (1, .c (prog_r vb b)), (14, .o 0 0 2 2), (15, .c (I (2 : Nat))), (16, .c (I (0 : Nat)))]) (fun _ => _) (by decide) (by rw [hE]; first | exact (fun _ hi => absurd hi (Nat.not_lt_zero _)) | exact (fun i hi => by (have hi : i < 1 := hi); (have h0 : i = 0 := (by omega)); (subst h0); rfl)) (by intro _g; (repeat first | exact W0 | apply W1 rfl | exact L0 | apply L1 | exact V1 rfl | exact V2 rfl | exact V3 rfl rfl | exact V4 | exact V5 rfl | exact V3 rfl (by first | (simp; omega) | simp) | exact V1 (by first | (simp; omega) | simp) | exact V6 rfl rfl (by first | rfl | simp) (by simp) rfl | apply V7 | apply V8 | apply V9 | refine V1 ?_ | refine V3 rfl ?_); fail_if_success focus skip) (by intro _g; (repeat first | exact K0 | apply K1 rfl | apply K2 rfl rfl | apply K2 rfl (by simp) | apply K3 | exact L0 | apply L1 | exact V1 rfl | exact V2 rfl | exact V3 rfl rfl | exact V4 | exact V5 rfl | exact V3 rfl (by first | (simp; omega) | simp) | exact V1 (by first | (simp; omega) | simp) | exact V6 rfl rfl (by first | rfl | simp) (by simp) rfl | apply V7 | apply V8 | apply V9); fail_if_success focus skip) (fun _ => ?_)
    exact ⟨2, 0, by omega, by omega, by omega, rfl, rfl⟩
  rintro m F H ⟨k, hk, p1, p2, rfl, rfl⟩
  repeat with_reducible first | apply S1 | apply S2 | apply S3 | apply S4 | apply S5 | apply S6 | apply S7 | apply S8 | refine S0 rfl ?_ | apply SA | apply SB | apply SC
  refine aw_region ?_
  first | refine RA rfl rfl (by decide) (rd_lss_t rfl rfl rfl (by omega)) ?_ | refine RA rfl rfl (by decide) (rd_lss_f rfl rfl rfl (by omega)) ?_ | refine RA rfl rfl (by decide) (rd_lss rfl rfl rfl) ?_
  refine al_nil ?_
  repeat with_reducible first | apply S1 | apply S2 | apply S3 | apply S4 | apply S5 | apply S6 | apply S7 | apply S8 | refine S0 rfl ?_ | apply SA | apply SB | apply SC
  refine aw_if rfl (fun hlt => ?_) (fun hge => ?_)
  · obtain rfl | rfl : k = 0 ∨ k = 1 := by omega
    · have r1 : ([[prog_r va a], [prog_r vb b]] : List (List CV))[0]? = some [prog_r va a] := rfl
      repeat with_reducible first | apply S1 | apply S2 | apply S3 | apply S4 | apply S5 | apply S6 | apply S7 | apply S8 | refine S0 rfl ?_ | apply SA | apply SB | apply SC
      refine aw_region ?_
      first | refine RA rfl rfl (by decide) (rd_index rfl Te120 rfl rfl rfl (by first | rfl | omega) (by omega)) ?_ | refine RA rfl rfl (by decide) (rd_indexq rfl Te120 rfl rfl (by first | rfl | omega) (by assumption) rfl) ?_
      refine RA rfl rfl (by decide) (rd_loadn1 rfl Tk26 rfl (by first | exact CB rfl | exact CQ | exact CA rfl (by first | assumption | (rw [Nat.zero_add]; assumption))) (by (try simp only [nm, putL, Nat.reduceAdd, cellsOf, cvOf]) <;> rfl)) ?_
      refine M1 rfl ?_
      refine al_nil ?_
      repeat with_reducible first | apply S1 | apply S2 | apply S3 | apply S4 | apply S5 | apply S6 | apply S7 | apply S8 | refine S0 rfl ?_ | apply SA | apply SB | apply SC
      refine aw_region ?_
      refine M1 rfl ?_
      refine al_ef rfl (ef_call0 false (fun _ => check_a a va (by omega)) rfl .fn rfl (by decide) Tc23 rfl (fun _ => C0 rfl) (by simp)) ?_
      rintro _ _ ⟨_, _, _, ⟨rfl, rfl⟩, hF, hH⟩
      (try simp only [nsl, Nat.reduceAdd, Nat.reduceLT, Nat.reduceSub] at hF); (try simp only [nsl, Nat.reduceAdd, Nat.reduceLT, Nat.reduceSub] at hH); subst hF; subst hH
      refine M1 rfl ?_
      refine al_nil ?_
      repeat with_reducible first | apply S1 | apply S2 | apply S3 | apply S4 | apply S5 | apply S6 | apply S7 | apply S8 | refine S0 rfl ?_ | apply SA | apply SB | apply SC
      refine aw_region ?_
      refine M1 rfl ?_
      first | refine RA rfl rfl (by decide) (rd_neq_t rfl rfl rfl (by omega)) ?_ | refine RA rfl rfl (by decide) (rd_neq_f rfl rfl rfl (by omega)) ?_ | refine RA rfl rfl (by decide) (rd_neq rfl rfl rfl) ?_
      refine al_nil ?_
      repeat with_reducible first | apply S1 | apply S2 | apply S3 | apply S4 | apply S5 | apply S6 | apply S7 | apply S8 | refine S0 rfl ?_ | apply SA | apply SB | apply SC
      refine aw_if rfl (fun hne => ?_) (fun heq => ?_)
      · have hj : joinedF a b = progF a := by rw [joinedF, if_pos hne]
        rw [hj]
        repeat with_reducible first | apply S1 | apply S2 | apply S3 | apply S4 | apply S5 | apply S6 | apply S7 | apply S8 | refine S0 rfl ?_ | apply SA | apply SB | apply SC
        refine aw_region ?_
        refine M1 rfl ?_
        refine M1 rfl ?_
        refine M1 rfl ?_
        refine al_nil ?_
        repeat with_reducible first | apply S1 | apply S2 | apply S3 | apply S4 | apply S5 | apply S6 | apply S7 | apply S8 | refine S0 rfl ?_ | apply SA | apply SB | apply SC
        exact aret_2 [] _ rfl rfl rfl rfl rfl (by decide) (fun _ hi => absurd hi (Nat.not_lt_zero _)) (fun _ => .nil) ⟨_, by rw [if_neg hne]; rfl, rfl⟩
      · repeat with_reducible first | apply S1 | apply S2 | apply S3 | apply S4 | apply S5 | apply S6 | apply S7 | apply S8 | refine S0 rfl ?_ | apply SA | apply SB | apply SC
        repeat with_reducible first | apply S1 | apply S2 | apply S3 | apply S4 | apply S5 | apply S6 | apply S7 | apply S8 | refine S0 rfl ?_ | apply SA | apply SB | apply SC
        refine aw_region ?_
        first | refine RA rfl rfl (by decide) (rd_addn rfl rfl rfl (by omega)) ?_ | refine RA rfl rfl (by decide) (rd_add rfl rfl rfl) ?_
        refine M1 rfl ?_
        refine al_nil ?_
        repeat with_reducible first | apply S1 | apply S2 | apply S3 | apply S4 | apply S5 | apply S6 | apply S7 | apply S8 | refine S0 rfl ?_ | apply SA | apply SB | apply SC
        refine wk_of [some 0] (fun _ => [(0, .c (prog_r va a)), (1, .c (prog_r vb b)), (14, .o 0 0 2 2), (15, .c (I (2 : Nat))), (16, .c (I (1 : Nat)))]) (fun _ => _) (by decide) (by rw [hE]; first | exact (fun _ hi => absurd hi (Nat.not_lt_zero _)) | exact (fun i hi => by (have hi : i < 1 := hi); (have h0 : i = 0 := (by omega)); (subst h0); rfl)) (by intro _g; (repeat first | exact W0 | apply W1 rfl | exact L0 | apply L1 | exact V1 rfl | exact V2 rfl | exact V3 rfl rfl | exact V4 | exact V5 rfl | exact V3 rfl (by first | (simp; omega) | simp) | exact V1 (by first | (simp; omega) | simp) | exact V6 rfl rfl (by first | rfl | simp) (by simp) rfl | apply V7 | apply V8 | apply V9 | refine V1 ?_ | refine V3 rfl ?_); fail_if_success focus skip) (by intro _g; (repeat first | exact K0 | apply K1 rfl | apply K2 rfl rfl | apply K2 rfl (by simp) | apply K3 | exact L0 | apply L1 | exact V1 rfl | exact V2 rfl | exact V3 rfl rfl | exact V4 | exact V5 rfl | exact V3 rfl (by first | (simp; omega) | simp) | exact V1 (by first | (simp; omega) | simp) | exact V6 rfl rfl (by first | rfl | simp) (by simp) rfl | apply V7 | apply V8 | apply V9); fail_if_success focus skip) (fun _ => ?_)
        exact ⟨m - 1, by omega, 1, by omega, fun _ => by omega, by omega, rfl, rfl⟩
    · have q1 := p1 (by omega)
      have r1 : ([[prog_r va a], [prog_r vb b]] : List (List CV))[1]? = some [prog_r vb b] := rfl
      repeat with_reducible first | apply S1 | apply S2 | apply S3 | apply S4 | apply S5 | apply S6 | apply S7 | apply S8 | refine S0 rfl ?_ | apply SA | apply SB | apply SC
      refine aw_region ?_
      first | refine RA rfl rfl (by decide) (rd_index rfl Te120 rfl rfl rfl (by first | rfl | omega) (by omega)) ?_ | refine RA rfl rfl (by decide) (rd_indexq rfl Te120 rfl rfl (by first | rfl | omega) (by assumption) rfl) ?_
      refine RA rfl rfl (by decide) (rd_loadn1 rfl Tk26 rfl (by first | exact CB rfl | exact CQ | exact CA rfl (by first | assumption | (rw [Nat.zero_add]; assumption))) (by (try simp only [nm, putL, Nat.reduceAdd, cellsOf, cvOf]) <;> rfl)) ?_
      refine M1 rfl ?_
      refine al_nil ?_
      repeat with_reducible first | apply S1 | apply S2 | apply S3 | apply S4 | apply S5 | apply S6 | apply S7 | apply S8 | refine S0 rfl ?_ | apply SA | apply SB | apply SC
      refine aw_region ?_
      refine M1 rfl ?_
      refine al_ef rfl (ef_call0 false (fun _ => check_a b vb (by omega)) rfl .fn rfl (by decide) Tc23 rfl (fun _ => C0 rfl) (by simp)) ?_
      rintro _ _ ⟨_, _, _, ⟨rfl, rfl⟩, hF, hH⟩
      (try simp only [nsl, Nat.reduceAdd, Nat.reduceLT, Nat.reduceSub] at hF); (try simp only [nsl, Nat.reduceAdd, Nat.reduceLT, Nat.reduceSub] at hH); subst hF; subst hH
      refine M1 rfl ?_
      refine al_nil ?_
      repeat with_reducible first | apply S1 | apply S2 | apply S3 | apply S4 | apply S5 | apply S6 | apply S7 | apply S8 | refine S0 rfl ?_ | apply SA | apply SB | apply SC
      refine aw_region ?_
      refine M1 rfl ?_
      first | refine RA rfl rfl (by decide) (rd_neq_t rfl rfl rfl (by omega)) ?_ | refine RA rfl rfl (by decide) (rd_neq_f rfl rfl rfl (by omega)) ?_ | refine RA rfl rfl (by decide) (rd_neq rfl rfl rfl) ?_
      refine al_nil ?_
      repeat with_reducible first | apply S1 | apply S2 | apply S3 | apply S4 | apply S5 | apply S6 | apply S7 | apply S8 | refine S0 rfl ?_ | apply SA | apply SB | apply SC
      refine aw_if rfl (fun hne => ?_) (fun heq => ?_)
      · have hj : joinedF a b = progF b := by rw [joinedF, if_neg (by omega), if_pos hne]
        rw [hj]
        repeat with_reducible first | apply S1 | apply S2 | apply S3 | apply S4 | apply S5 | apply S6 | apply S7 | apply S8 | refine S0 rfl ?_ | apply SA | apply SB | apply SC
        refine aw_region ?_
        refine M1 rfl ?_
        refine M1 rfl ?_
        refine M1 rfl ?_
        refine al_nil ?_
        repeat with_reducible first | apply S1 | apply S2 | apply S3 | apply S4 | apply S5 | apply S6 | apply S7 | apply S8 | refine S0 rfl ?_ | apply SA | apply SB | apply SC
        exact aret_2 [] _ rfl rfl rfl rfl rfl (by decide) (fun _ hi => absurd hi (Nat.not_lt_zero _)) (fun _ => .nil) ⟨_, by rw [if_neg hne]; rfl, rfl⟩
      · repeat with_reducible first | apply S1 | apply S2 | apply S3 | apply S4 | apply S5 | apply S6 | apply S7 | apply S8 | refine S0 rfl ?_ | apply SA | apply SB | apply SC
        repeat with_reducible first | apply S1 | apply S2 | apply S3 | apply S4 | apply S5 | apply S6 | apply S7 | apply S8 | refine S0 rfl ?_ | apply SA | apply SB | apply SC
        refine aw_region ?_
        first | refine RA rfl rfl (by decide) (rd_addn rfl rfl rfl (by omega)) ?_ | refine RA rfl rfl (by decide) (rd_add rfl rfl rfl) ?_
        refine M1 rfl ?_
        refine al_nil ?_
        repeat with_reducible first | apply S1 | apply S2 | apply S3 | apply S4 | apply S5 | apply S6 | apply S7 | apply S8 | refine S0 rfl ?_ | apply SA | apply SB | apply SC
        refine wk_of [some 0] (fun _ => [(0, .c (prog_r va a)), (1, .c (prog_r vb b)), (14, .o 0 0 2 2), (15, .c (I (2 : Nat))), (16, .c (I (2 : Nat)))]) (fun _ => _) (by decide) (by rw [hE]; first | exact (fun _ hi => absurd hi (Nat.not_lt_zero _)) | exact (fun i hi => by (have hi : i < 1 := hi); (have h0 : i = 0 := (by omega)); (subst h0); rfl)) (by intro _g; (repeat first | exact W0 | apply W1 rfl | exact L0 | apply L1 | exact V1 rfl | exact V2 rfl | exact V3 rfl rfl | exact V4 | exact V5 rfl | exact V3 rfl (by first | (simp; omega) | simp) | exact V1 (by first | (simp; omega) | simp) | exact V6 rfl rfl (by first | rfl | simp) (by simp) rfl | apply V7 | apply V8 | apply V9 | refine V1 ?_ | refine V3 rfl ?_); fail_if_success focus skip) (by intro _g; (repeat first | exact K0 | apply K1 rfl | apply K2 rfl rfl | apply K2 rfl (by simp) | apply K3 | exact L0 | apply L1 | exact V1 rfl | exact V2 rfl | exact V3 rfl rfl | exact V4 | exact V5 rfl | exact V3 rfl (by first | (simp; omega) | simp) | exact V1 (by first | (simp; omega) | simp) | exact V6 rfl rfl (by first | rfl | simp) (by simp) rfl | apply V7 | apply V8 | apply V9); fail_if_success focus skip) (fun _ => ?_)
        exact ⟨m - 1, by omega, 2, by omega, fun _ => q1, fun _ => by omega, rfl, rfl⟩
  replace p1 := p1 (by omega)
  replace p2 := p2 (by omega)
  have hj : joinedF a b = joinF a b := by rw [joinedF, if_neg (by omega), if_neg (by omega)]
  rw [hj]
  repeat with_reducible first | apply S1 | apply S2 | apply S3 | apply S4 | apply S5 | apply S6 | apply S7 | apply S8 | refine S0 rfl ?_ | apply SA | apply SB | apply SC
  refine aw_region ?_
  refine M1 rfl ?_
  refine al_nil ?_
  refine aseq_n ?_
  refine aw_wk (wk_of (K := fun F H => F = [(0, .c (prog_r va a)), (1, .c (prog_r vb b)), (9, .o 0 0 0 0)] ∧ H = [.arr 36 6 0 []]) [none] (fun _ => [(0, .c (prog_r va a)), (1, .c (prog_r vb b)), (9, .o 0 0 0 0)]) (fun _ => [.arr 36 6 0 []]) (by decide) (by rw [hE]; exact (fun _ hi => absurd hi (Nat.not_lt_zero _))) (by intro _g; (repeat first | exact W0 | apply W1 rfl | exact L0 | apply L1 | exact V1 rfl | exact V2 rfl | exact V3 rfl rfl | exact V4 | exact V5 rfl | exact V3 rfl (by first | (simp; omega) | simp) | exact V1 (by first | (simp; omega) | simp) | exact V6 rfl rfl (by first | rfl | simp) (by simp) rfl | apply V7 | apply V8 | apply V9 | refine V1 ?_ | refine V3 rfl ?_); fail_if_success focus skip) (by intro _g; (repeat first | exact K0 | apply K1 rfl | apply K2 rfl rfl | apply K2 rfl (by simp) | apply K3 | exact L0 | apply L1 | exact V1 rfl | exact V2 rfl | exact V3 rfl rfl | exact V4 | exact V5 rfl | exact V3 rfl (by first | (simp; omega) | simp) | exact V1 (by first | (simp; omega) | simp) | exact V6 rfl rfl (by first | rfl | simp) (by simp) rfl | apply V7 | apply V8 | apply V9); fail_if_success focus skip) (fun _ => ⟨rfl, rfl⟩)) ?_
  rintro F H ⟨rfl, rfl⟩
  repeat with_reducible first | apply S1 | apply S2 | apply S3 | apply S4 | apply S5 | apply S6 | apply S7 | apply S8 | refine S0 rfl ?_ | apply SA | apply SB | apply SC
  refine aw_region ?_
  refine M1 rfl ?_
  refine M1 rfl ?_
  refine al_ef rfl (ef_appn rfl rfl (by decide) Ta26 rfl rfl (by first | rfl | simp | (simp; omega)) rfl (by first | exact Src.own rfl (by (try simp only [nm, putL, Nat.reduceAdd, cellsOf, cvOf]) <;> rfl) (by first | rfl | simp | (simp; omega)) | exact Src.ro (by simp) (by simp [CV.one, Value.oneCell'])) (by (try simp only [nm, putL, Nat.reduceAdd, cellsOf, cvOf]) <;> rfl) (by omega) (fun _ _ => rfl) (by intro g c2; simp only [List.map_cons, List.map_nil, killO, killV, AV.has, AV.hasL, List.contains_cons, List.contains_nil, Nat.reduceBEq, Bool.or_false, Bool.false_or, Bool.false_eq_true, beq_self_eq_true, if_false, if_true, List.set_cons_zero, List.set_cons_succ, List.nil_append]; rfl)) ?_
  rintro _ _ ⟨_, cc, hcc, rfl, rfl⟩
  refine M1 rfl ?_
  refine al_nil ?_
  repeat with_reducible first | apply S1 | apply S2 | apply S3 | apply S4 | apply S5 | apply S6 | apply S7 | apply S8 | refine S0 rfl ?_ | apply SA | apply SB | apply SC
  refine aw_region ?_
  refine M1 rfl ?_
  refine al_ef rfl (ef_call0 false (fun _ => last_a a va ha hoa) rfl .fn rfl (by decide) Tc17 rfl (fun _ => C0 rfl) (by simp)) ?_
  rintro _ _ ⟨_, _, _, ⟨rfl, rfl⟩, hF, hH⟩
  rw [if_pos p1] at hF
  (try simp only [nsl, Nat.reduceAdd, Nat.reduceLT, Nat.reduceSub] at hF); (try simp only [nsl, Nat.reduceAdd, Nat.reduceLT, Nat.reduceSub] at hH); subst hF; subst hH
  refine M1 rfl ?_
  refine M1 rfl ?_
  refine M1 rfl ?_
  refine EA rfl (ef_allocn rfl rfl (by decide) Tz42 rfl rfl (by (try simp only [nm, putL, Nat.reduceAdd, cellsOf, cvOf]) <;> rfl) (by (try simp only [nm, putL, Nat.reduceAdd, cellsOf, cvOf]) <;> rfl)) ?_
  first | refine EA rfl (ef_storen rfl rfl rfl rfl rfl Ts42 rfl (by simp) rfl (by (try simp only [nm, putL, Nat.reduceAdd, cellsOf, cvOf]) <;> rfl) (by (try simp only [nm, putL, Nat.reduceAdd, cellsOf, cvOf]) <;> rfl)) ?_ | refine EA rfl (ef_storern rfl rfl rfl rfl (by first | assumption | (rw [Nat.zero_add]; assumption)) rfl rfl Ts42 rfl (by simp) rfl (by (try simp only [nm, putL, Nat.reduceAdd, cellsOf, cvOf]) <;> rfl) rfl) ?_
  refine M1 rfl ?_
  refine al_nil ?_
  repeat with_reducible first | apply S1 | apply S2 | apply S3 | apply S4 | apply S5 | apply S6 | apply S7 | apply S8 | refine S0 rfl ?_ | apply SA | apply SB | apply SC
  refine aw_region ?_
  refine RA rfl rfl (by decide) (rd_fx rfl Tf42_7 rfl) ?_
  refine RA rfl rfl (by decide) (rd_loadn1 rfl Tk4 rfl (by first | exact CB rfl | exact CQ | exact CA rfl (by first | assumption | (rw [Nat.zero_add]; assumption))) (by (try simp only [nm, putL, Nat.reduceAdd, cellsOf, cvOf]) <;> rfl)) ?_
  refine al_nil ?_
  refine aseq_n ?_
  refine aw_cut (fun F H => ∃ c, F = [(1, .c (prog_r vb b)), (9, .o 0 0 (a ++ midS a).length c)] ∧ H = [.arr 36 6 c ((a ++ midS a).map Step.row)]) ?_ ?_ wk_aw
  · cases hrel : (lastS a).rel
    · refine aw_cond_f rfl ?_
      repeat with_reducible first | apply S1 | apply S2 | apply S3 | apply S4 | apply S5 | apply S6 | apply S7 | apply S8 | refine S0 rfl ?_ | apply SA | apply SB | apply SC
      refine wk_of [some 0] (fun _ => [(1, .c (prog_r vb b)), (9, .o 0 0 a.length cc)]) (fun _ => [.arr 36 6 cc (a.map Step.row)]) (by decide) (by rw [hE]; first | exact (fun _ hi => absurd hi (Nat.not_lt_zero _)) | exact (fun i hi => by (have hi : i < 1 := hi); (have h0 : i = 0 := (by omega)); (subst h0); rfl)) (by intro _g; (repeat first | exact W0 | apply W1 rfl | exact L0 | apply L1 | exact V1 rfl | exact V2 rfl | exact V3 rfl rfl | exact V4 | exact V5 rfl | exact V3 rfl (by first | (simp; omega) | simp) | exact V1 (by first | (simp; omega) | simp) | exact V6 rfl rfl (by first | rfl | simp) (by simp) rfl | apply V7 | apply V8 | apply V9 | refine V1 ?_ | refine V3 rfl ?_); fail_if_success focus skip) (by intro _g; (repeat first | exact K0 | apply K1 rfl | apply K2 rfl rfl | apply K2 rfl (by simp) | apply K3 | exact L0 | apply L1 | exact V1 rfl | exact V2 rfl | exact V3 rfl rfl | exact V4 | exact V5 rfl | exact V3 rfl (by first | (simp; omega) | simp) | exact V1 (by first | (simp; omega) | simp) | exact V6 rfl rfl (by first | rfl | simp) (by simp) rfl | apply V7 | apply V8 | apply V9); fail_if_success focus skip) (fun _ => ?_)
      exact ⟨cc, by rw [midS, hrel]; simp, by rw [midS, hrel]; simp⟩
    · refine aw_cond_t rfl ?_
      repeat with_reducible first | apply S1 | apply S2 | apply S3 | apply S4 | apply S5 | apply S6 | apply S7 | apply S8 | refine S0 rfl ?_ | apply SA | apply SB | apply SC
      refine aw_region ?_
      refine M1 rfl ?_
      refine RA rfl rfl (by decide) (rd_build rfl Tz36 rfl Tb36 (.cons rfl rfl rfl (by simp) rfl (by (try simp only [nm, putL, Nat.reduceAdd, cellsOf, cvOf]) <;> rfl) (.nil))) ?_
      refine EA rfl (ef_buildSlicen rfl rfl (by decide) Te26 (.cons rfl rfl (.nil _)) rfl Tz36 rfl rfl (by simp) (by simp) (by (try simp only [nm, putL, Nat.reduceAdd, cellsOf, cvOf]) <;> rfl) (by (try simp only [nm, putL, Nat.reduceAdd, cellsOf, cvOf]) <;> rfl)) ?_
      refine al_ef rfl (ef_appn rfl rfl (by decide) Ta26 rfl rfl (by first | rfl | simp | (simp; omega)) rfl (by first | exact Src.own rfl (by (try simp only [nm, putL, Nat.reduceAdd, cellsOf, cvOf]) <;> rfl) (by first | rfl | simp | (simp; omega)) | exact Src.ro (by simp) (by simp [CV.one, Value.oneCell'])) (by (try simp only [nm, putL, Nat.reduceAdd, cellsOf, cvOf]) <;> rfl) (by omega) (fun _ _ => rfl) (by intro g c2; simp only [List.map_cons, List.map_nil, killO, killV, AV.has, AV.hasL, List.contains_cons, List.contains_nil, Nat.reduceBEq, Bool.or_false, Bool.false_or, Bool.false_eq_true, beq_self_eq_true, if_false, if_true, List.set_cons_zero, List.set_cons_succ, List.nil_append]; rfl)) ?_
      rintro _ _ ⟨_, cc, hcc, rfl, rfl⟩
      refine M1 rfl ?_
      refine al_nil ?_
      repeat with_reducible first | apply S1 | apply S2 | apply S3 | apply S4 | apply S5 | apply S6 | apply S7 | apply S8 | refine S0 rfl ?_ | apply SA | apply SB | apply SC
      refine wk_of [some 0] (fun _ => [(1, .c (prog_r vb b)), (9, .o 0 0 (a ++ [(⟨1, 0, 0, 0, 0, 0⟩ : Step)]).length cc)]) (fun _ => [.arr 36 6 cc ((a ++ [(⟨1, 0, 0, 0, 0, 0⟩ : Step)]).map Step.row)]) (by decide) (by rw [hE]; first | exact (fun _ hi => absurd hi (Nat.not_lt_zero _)) | exact (fun i hi => by (have hi : i < 1 := hi); (have h0 : i = 0 := (by omega)); (subst h0); rfl)) (by intro _g; (repeat first | exact W0 | apply W1 rfl | exact L0 | apply L1 | exact V1 rfl | exact V2 rfl | exact V3 rfl rfl | exact V4 | exact V5 rfl | exact V3 rfl (by first | (simp; omega) | simp) | exact V1 (by first | (simp; omega) | simp) | exact V6 rfl rfl (by first | rfl | simp) (by simp) rfl | apply V7 | apply V8 | apply V9 | refine V1 ?_ | refine V3 rfl ?_); fail_if_success focus skip) (by intro _g; (repeat first | exact K0 | apply K1 rfl | apply K2 rfl rfl | apply K2 rfl (by simp) | apply K3 | exact L0 | apply L1 | exact V1 rfl | exact V2 rfl | exact V3 rfl rfl | exact V4 | exact V5 rfl | exact V3 rfl (by first | (simp; omega) | simp) | exact V1 (by first | (simp; omega) | simp) | exact V6 rfl rfl (by first | rfl | simp) (by simp) rfl | apply V7 | apply V8 | apply V9); fail_if_success focus skip) (fun _ => ?_)
      exact ⟨cc, by rw [midS, hrel]; rfl, by rw [midS, hrel]; rfl⟩
  rintro F H ⟨c, rfl, rfl⟩
  have hl1 : (a ++ midS a).length = a.length + (midS a).length := by simp
  have e1 : ((a ++ midS a).map Step.row).length = (a ++ midS a).length := by simp
  have e2 : (b.map Step.row).length = b.length := by simp
  repeat with_reducible first | apply S1 | apply S2 | apply S3 | apply S4 | apply S5 | apply S6 | apply S7 | apply S8 | refine S0 rfl ?_ | apply SA | apply SB | apply SC
  refine aw_region ?_
  refine M1 rfl ?_
  refine M1 rfl ?_
  refine al_ef rfl (ef_appn rfl rfl (by decide) Ta26 rfl rfl (by first | rfl | simp | (simp; omega)) rfl (by first | exact Src.own rfl (by (try simp only [nm, putL, Nat.reduceAdd, cellsOf, cvOf]) <;> rfl) (by first | rfl | simp | (simp; omega)) | exact Src.ro (by simp) (by simp [CV.one, Value.oneCell'])) (by (try simp only [nm, putL, Nat.reduceAdd, cellsOf, cvOf]) <;> rfl) (by omega) (fun _ _ => rfl) (by intro g c2; simp only [List.map_cons, List.map_nil, killO, killV, AV.has, AV.hasL, List.contains_cons, List.contains_nil, Nat.reduceBEq, Bool.or_false, Bool.false_or, Bool.false_eq_true, beq_self_eq_true, if_false, if_true, List.set_cons_zero, List.set_cons_succ, List.nil_append]; rfl)) ?_
  rintro _ _ ⟨_, cc, hcc, rfl, rfl⟩
  refine M1 rfl ?_
  refine al_nil ?_
  repeat with_reducible first | apply S1 | apply S2 | apply S3 | apply S4 | apply S5 | apply S6 | apply S7 | apply S8 | refine S0 rfl ?_ | apply SA | apply SB | apply SC
  refine aw_region ?_
  refine M1 rfl ?_
  refine RA rfl rfl (by decide) (rd_lx rfl Te26 rfl) ?_
  first | refine RA rfl rfl (by decide) (rd_gtr_t rfl rfl rfl (by omega)) ?_ | refine RA rfl rfl (by decide) (rd_gtr_f rfl rfl rfl (by omega)) ?_ | refine RA rfl rfl (by decide) (rd_gtr rfl rfl rfl) ?_
  refine al_nil ?_
  repeat with_reducible first | apply S1 | apply S2 | apply S3 | apply S4 | apply S5 | apply S6 | apply S7 | apply S8 | refine S0 rfl ?_ | apply SA | apply SB | apply SC
  refine aw_if rfl (fun hbig => ?_) (fun hok => ?_)
  · have hJ : joinF a b = 2 := by rw [joinF, if_pos (by omega)]
    rw [hJ]
    repeat with_reducible first | apply S1 | apply S2 | apply S3 | apply S4 | apply S5 | apply S6 | apply S7 | apply S8 | refine S0 rfl ?_ | apply SA | apply SB | apply SC
    refine aw_region ?_
    refine M1 rfl ?_
    refine M1 rfl ?_
    refine al_nil ?_
    repeat with_reducible first | apply S1 | apply S2 | apply S3 | apply S4 | apply S5 | apply S6 | apply S7 | apply S8 | refine S0 rfl ?_ | apply SA | apply SB | apply SC
    exact aret_2 [] _ rfl rfl rfl rfl rfl (by decide) (fun _ hi => absurd hi (Nat.not_lt_zero _)) (fun _ => .nil) ⟨_, by rw [if_neg (by decide)]; rfl, rfl⟩
  · have hJ : joinF a b = 0 := by rw [joinF, if_neg (by omega)]
    rw [hJ]
    repeat with_reducible first | apply S1 | apply S2 | apply S3 | apply S4 | apply S5 | apply S6 | apply S7 | apply S8 | refine S0 rfl ?_ | apply SA | apply SB | apply SC
    refine aw_region ?_
    refine M1 rfl ?_
    refine M1 rfl ?_
    refine M1 rfl ?_
    refine al_nil ?_
    repeat with_reducible first | apply S1 | apply S2 | apply S3 | apply S4 | apply S5 | apply S6 | apply S7 | apply S8 | refine S0 rfl ?_ | apply SA | apply SB | apply SC
    exact aret_f2 [] [] rfl rfl rfl rfl rfl rfl (by rw [List.drop_zero, List.take_of_length_le (by simp; omega)]) (by simp; omega) (by decide) (by decide) (fun _ hi => absurd hi (Nat.not_lt_zero _)) (fun _ => .nil) (fun v' => ⟨v', by rw [if_pos rfl, joinS]; simp only [prog_r, List.map_append], rfl⟩)
end Go.Proofs.Ytpbedckdnoogpaa
