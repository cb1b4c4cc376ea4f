/- The short form, of the program and of its document, by value. -/
import Derived.Test.YtpbedckdnoogpaaOb
import Derived.Test.YtpbedckdnoogpaaOp
set_option linter.unusedSimpArgs false
set_option linter.unusedVariables false
namespace Go.Proofs.Ytpbedckdnoogpaa
open Go Go.RowKit
set_option maxRecDepth 100000
theorem rd_addy {P : Program} {N : Nat} {E : Env} {F : Fm} {H : List OB} {o : Oper} {t yt : TypeId} {x y : Operand} {m n z : Int} (ho : o.op = .binOp .add t x y yt) (hx : ev F x = some (.c (.s (.int .i64 m)))) (hy : ev F y = some (.c (.s (.int .i64 n)))) (hz : m + n = z) (h : -9223372036854775808 ≤ z ∧ z ≤ 9223372036854775807) : Rd P N E o F H (.c (.s (.int .i64 z))) := by
  subst hz; exact rd_addn ho hx hy h
theorem idle_a (x : Step) (was is : Mach) : ACalls Try.prog 175 [.a (x.row.map .c), .a (was.row.map .c), .a (is.row.map .c)] [] fun u H => u = .c (B (!keepB was is x)) ∧ H = [] := by
  refine acalls_of (N := 27) Try.func175 rfl rfl (by simp) fun E hE => ?_
  repeat with_reducible first | apply S1 | apply S2 | apply S3 | apply S4 | apply S5 | apply S6 | apply S7 | apply S8 | refine S0 rfl ?_ | apply SA | apply SB | apply SC
  refine aw_region ?_
  refine EA rfl (ef_boxn rfl rfl (by decide) rfl (by (try simp only [nm, putL, Nat.reduceAdd, cellsOf, cvOf]) <;> rfl) rfl (by (try simp only [nm, putL, Nat.reduceAdd, cellsOf, cvOf]) <;> rfl) (by (try simp only [nm, putL, Nat.reduceAdd, cellsOf, cvOf]) <;> rfl)) ?_
  refine EA rfl (ef_boxn rfl rfl (by decide) rfl (by (try simp only [nm, putL, Nat.reduceAdd, cellsOf, cvOf]) <;> rfl) rfl (by (try simp only [nm, putL, Nat.reduceAdd, cellsOf, cvOf]) <;> rfl) (by (try simp only [nm, putL, Nat.reduceAdd, cellsOf, cvOf]) <;> rfl)) ?_
  refine EA rfl (ef_boxn rfl rfl (by decide) rfl (by (try simp only [nm, putL, Nat.reduceAdd, cellsOf, cvOf]) <;> rfl) rfl (by (try simp only [nm, putL, Nat.reduceAdd, cellsOf, cvOf]) <;> rfl) (by (try simp only [nm, putL, Nat.reduceAdd, cellsOf, cvOf]) <;> rfl)) ?_
  refine M1 rfl ?_
  refine al_nil ?_
  repeat with_reducible first | apply S1 | apply S2 | apply S3 | apply S4 | apply S5 | apply S6 | apply S7 | apply S8 | refine S0 rfl ?_ | apply SA | apply SB | apply SC
  refine aw_region ?_
  refine RA rfl rfl (by decide) (rd_fx rfl Tf36_0 rfl) ?_
  refine RA rfl rfl (by decide) (rd_loadn1 rfl Tk3 rfl (by first | exact CB rfl | exact CQ | exact CA rfl (by first | assumption | (rw [Nat.zero_add]; assumption))) (by (try simp only [nm, putL, Nat.reduceAdd, cellsOf, cvOf]) <;> rfl)) ?_
  refine al_nil ?_
  repeat with_reducible first | apply S1 | apply S2 | apply S3 | apply S4 | apply S5 | apply S6 | apply S7 | apply S8 | refine S0 rfl ?_ | apply SA | apply SB | apply SC
  refine aw_region ?_
  first | refine RA rfl rfl (by decide) (rd_eql_t rfl rfl rfl (by omega)) ?_ | refine RA rfl rfl (by decide) (rd_eql_f rfl rfl rfl (by omega)) ?_ | refine RA rfl rfl (by decide) (rd_eql rfl rfl rfl) ?_
  refine M1 rfl ?_
  refine al_nil ?_
  repeat with_reducible first | apply S1 | apply S2 | apply S3 | apply S4 | apply S5 | apply S6 | apply S7 | apply S8 | refine S0 rfl ?_ | apply SA | apply SB | apply SC
  refine aw_if rfl (fun h4 => ?_) (fun h4 => ?_)
  · by_cases hf : x.f = 0
    · repeat with_reducible first | apply S1 | apply S2 | apply S3 | apply S4 | apply S5 | apply S6 | apply S7 | apply S8 | refine S0 rfl ?_ | apply SA | apply SB | apply SC
      refine aw_region ?_
      refine RA rfl rfl (by decide) (rd_fx rfl Tf36_4 rfl) ?_
      refine RA rfl rfl (by decide) (rd_loadn1 rfl Tk3 rfl (by first | exact CB rfl | exact CQ | exact CA rfl (by first | assumption | (rw [Nat.zero_add]; assumption))) (by (try simp only [nm, putL, Nat.reduceAdd, cellsOf, cvOf]) <;> rfl)) ?_
      first | refine RA rfl rfl (by decide) (rd_eql_t rfl rfl rfl (by omega)) ?_ | refine RA rfl rfl (by decide) (rd_eql_f rfl rfl rfl (by omega)) ?_ | refine RA rfl rfl (by decide) (rd_eql rfl rfl rfl) ?_
      refine M1 rfl ?_
      first | (refine G1 rfl ?_; (refine RA rfl rfl (by decide) (rd_loadn rfl Tk42 rfl (by first | exact CB rfl | exact CQ | exact CA rfl (by first | assumption | (rw [Nat.zero_add]; assumption))) (by (try simp only [nm, putL, Nat.reduceAdd, cellsOf, cvOf]) <;> rfl) (by simp)) ?_)) | refine G2 rfl rfl (by decide) ?_
      first | (refine G1 rfl ?_; (refine RA rfl rfl (by decide) (rd_loadn rfl Tk42 rfl (by first | exact CB rfl | exact CQ | exact CA rfl (by first | assumption | (rw [Nat.zero_add]; assumption))) (by (try simp only [nm, putL, Nat.reduceAdd, cellsOf, cvOf]) <;> rfl) (by simp)) ?_)) | refine G2 rfl rfl (by decide) ?_
      first | (refine G1 rfl ?_; (refine RA rfl rfl (by decide) (rd_eqla42 rfl rfl rfl) ?_)) | refine G2 rfl rfl (by decide) ?_
      refine M1 rfl ?_
      refine M1 rfl ?_
      refine al_nil ?_
      repeat with_reducible first | apply S1 | apply S2 | apply S3 | apply S4 | apply S5 | apply S6 | apply S7 | apply S8 | refine S0 rfl ?_ | apply SA | apply SB | apply SC
      exact aret_1 [] _ rfl rfl rfl (by decide) (fun _ hi => absurd hi (Nat.not_lt_zero _)) (fun _ => .nil) ⟨by rw [keepB, if_pos h4, decide_eq_true hf, Bool.true_and, Bool.not_not]; rfl, rfl⟩
    · repeat with_reducible first | apply S1 | apply S2 | apply S3 | apply S4 | apply S5 | apply S6 | apply S7 | apply S8 | refine S0 rfl ?_ | apply SA | apply SB | apply SC
      refine aw_region ?_
      refine RA rfl rfl (by decide) (rd_fx rfl Tf36_4 rfl) ?_
      refine RA rfl rfl (by decide) (rd_loadn1 rfl Tk3 rfl (by first | exact CB rfl | exact CQ | exact CA rfl (by first | assumption | (rw [Nat.zero_add]; assumption))) (by (try simp only [nm, putL, Nat.reduceAdd, cellsOf, cvOf]) <;> rfl)) ?_
      first | refine RA rfl rfl (by decide) (rd_eql_t rfl rfl rfl (by omega)) ?_ | refine RA rfl rfl (by decide) (rd_eql_f rfl rfl rfl (by omega)) ?_ | refine RA rfl rfl (by decide) (rd_eql rfl rfl rfl) ?_
      refine M1 rfl ?_
      first | (refine G1 rfl ?_; (refine RA rfl rfl (by decide) (rd_loadn rfl Tk42 rfl (by first | exact CB rfl | exact CQ | exact CA rfl (by first | assumption | (rw [Nat.zero_add]; assumption))) (by (try simp only [nm, putL, Nat.reduceAdd, cellsOf, cvOf]) <;> rfl) (by simp)) ?_)) | refine G2 rfl rfl (by decide) ?_
      first | (refine G1 rfl ?_; (refine RA rfl rfl (by decide) (rd_loadn rfl Tk42 rfl (by first | exact CB rfl | exact CQ | exact CA rfl (by first | assumption | (rw [Nat.zero_add]; assumption))) (by (try simp only [nm, putL, Nat.reduceAdd, cellsOf, cvOf]) <;> rfl) (by simp)) ?_)) | refine G2 rfl rfl (by decide) ?_
      first | (refine G1 rfl ?_; (refine RA rfl rfl (by decide) (rd_eqla42 rfl rfl rfl) ?_)) | refine G2 rfl rfl (by decide) ?_
      refine M1 rfl ?_
      refine M1 rfl ?_
      refine al_nil ?_
      repeat with_reducible first | apply S1 | apply S2 | apply S3 | apply S4 | apply S5 | apply S6 | apply S7 | apply S8 | refine S0 rfl ?_ | apply SA | apply SB | apply SC
      exact aret_1 [] _ rfl rfl rfl (by decide) (fun _ hi => absurd hi (Nat.not_lt_zero _)) (fun _ => .nil) ⟨by rw [keepB, if_pos h4, decide_eq_false hf]; rfl, rfl⟩
  repeat with_reducible first | apply S1 | apply S2 | apply S3 | apply S4 | apply S5 | apply S6 | apply S7 | apply S8 | refine S0 rfl ?_ | apply SA | apply SB | apply SC
  refine aw_region ?_
  first | refine RA rfl rfl (by decide) (rd_eql_t rfl rfl rfl (by omega)) ?_ | refine RA rfl rfl (by decide) (rd_eql_f rfl rfl rfl (by omega)) ?_ | refine RA rfl rfl (by decide) (rd_eql rfl rfl rfl) ?_
  refine M1 rfl ?_
  refine al_nil ?_
  repeat with_reducible first | apply S1 | apply S2 | apply S3 | apply S4 | apply S5 | apply S6 | apply S7 | apply S8 | refine S0 rfl ?_ | apply SA | apply SB | apply SC
  refine aw_if rfl (fun h7 => ?_) (fun h7 => ?_)
  · by_cases hn : x.n = 0
    · repeat with_reducible first | apply S1 | apply S2 | apply S3 | apply S4 | apply S5 | apply S6 | apply S7 | apply S8 | refine S0 rfl ?_ | apply SA | apply SB | apply SC
      refine aw_region ?_
      refine RA rfl rfl (by decide) (rd_fx rfl Tf36_5 rfl) ?_
      refine RA rfl rfl (by decide) (rd_loadn1 rfl Tk3 rfl (by first | exact CB rfl | exact CQ | exact CA rfl (by first | assumption | (rw [Nat.zero_add]; assumption))) (by (try simp only [nm, putL, Nat.reduceAdd, cellsOf, cvOf]) <;> rfl)) ?_
      first | refine RA rfl rfl (by decide) (rd_eql_t rfl rfl rfl (by omega)) ?_ | refine RA rfl rfl (by decide) (rd_eql_f rfl rfl rfl (by omega)) ?_ | refine RA rfl rfl (by decide) (rd_eql rfl rfl rfl) ?_
      refine M1 rfl ?_
      refine al_nil ?_
      repeat with_reducible first | apply S1 | apply S2 | apply S3 | apply S4 | apply S5 | apply S6 | apply S7 | apply S8 | refine S0 rfl ?_ | apply SA | apply SB | apply SC
      exact aret_1 [] _ rfl rfl rfl (by decide) (fun _ hi => absurd hi (Nat.not_lt_zero _)) (fun _ => .nil) ⟨by rw [keepB, if_neg h4, if_pos h7, decide_eq_true hn]; rfl, rfl⟩
    · repeat with_reducible first | apply S1 | apply S2 | apply S3 | apply S4 | apply S5 | apply S6 | apply S7 | apply S8 | refine S0 rfl ?_ | apply SA | apply SB | apply SC
      refine aw_region ?_
      refine RA rfl rfl (by decide) (rd_fx rfl Tf36_5 rfl) ?_
      refine RA rfl rfl (by decide) (rd_loadn1 rfl Tk3 rfl (by first | exact CB rfl | exact CQ | exact CA rfl (by first | assumption | (rw [Nat.zero_add]; assumption))) (by (try simp only [nm, putL, Nat.reduceAdd, cellsOf, cvOf]) <;> rfl)) ?_
      first | refine RA rfl rfl (by decide) (rd_eql_t rfl rfl rfl (by omega)) ?_ | refine RA rfl rfl (by decide) (rd_eql_f rfl rfl rfl (by omega)) ?_ | refine RA rfl rfl (by decide) (rd_eql rfl rfl rfl) ?_
      refine M1 rfl ?_
      refine al_nil ?_
      repeat with_reducible first | apply S1 | apply S2 | apply S3 | apply S4 | apply S5 | apply S6 | apply S7 | apply S8 | refine S0 rfl ?_ | apply SA | apply SB | apply SC
      exact aret_1 [] _ rfl rfl rfl (by decide) (fun _ hi => absurd hi (Nat.not_lt_zero _)) (fun _ => .nil) ⟨by rw [keepB, if_neg h4, if_pos h7, decide_eq_false hn]; rfl, rfl⟩
  · repeat with_reducible first | apply S1 | apply S2 | apply S3 | apply S4 | apply S5 | apply S6 | apply S7 | apply S8 | refine S0 rfl ?_ | apply SA | apply SB | apply SC
    repeat with_reducible first | apply S1 | apply S2 | apply S3 | apply S4 | apply S5 | apply S6 | apply S7 | apply S8 | refine S0 rfl ?_ | apply SA | apply SB | apply SC
    refine aw_region ?_
    refine RA rfl rfl (by decide) (rd_loadn rfl Tk42 rfl (by first | exact CB rfl | exact CQ | exact CA rfl (by first | assumption | (rw [Nat.zero_add]; assumption))) (by (try simp only [nm, putL, Nat.reduceAdd, cellsOf, cvOf]) <;> rfl) (by simp)) ?_
    refine RA rfl rfl (by decide) (rd_loadn rfl Tk42 rfl (by first | exact CB rfl | exact CQ | exact CA rfl (by first | assumption | (rw [Nat.zero_add]; assumption))) (by (try simp only [nm, putL, Nat.reduceAdd, cellsOf, cvOf]) <;> rfl) (by simp)) ?_
    refine RA rfl rfl (by decide) (rd_eqla42 rfl rfl rfl) ?_
    refine M1 rfl ?_
    refine al_nil ?_
    repeat with_reducible first | apply S1 | apply S2 | apply S3 | apply S4 | apply S5 | apply S6 | apply S7 | apply S8 | refine S0 rfl ?_ | apply SA | apply SB | apply SC
    exact aret_1 [] _ rfl rfl rfl (by decide) (fun _ hi => absurd hi (Nat.not_lt_zero _)) (fun _ => .nil) ⟨by rw [keepB, if_neg h4, if_neg h7, Bool.not_not]; rfl, rfl⟩
theorem shorter1_a (k : Nat) (was is : Mach) (o : List Step) (c : Nat) (l : List Step) (v : Value) (s : Step) (hs : l[k]? = some s) (ho : o.length ≤ 1000000) :
    ACalls Try.prog 174 [.c (I k), .a (was.row.map .c), .a (is.row.map .c), .p 0 0 0, .p 1 0 0] (gath l v c o) fun u H => ∃ c' o', u = .t [] ∧ o' = o ++ keepE was is s ∧ H = gath l v c' o' := by
  have hlk : k < l.length := (List.getElem?_eq_some_iff.1 hs).1
  have e1 : (l.map Step.row).length = l.length := by simp
  have hrow : (l.map Step.row)[k]? = some s.row := by rw [List.getElem?_map, hs]; rfl
  obtain ⟨kb, hkb⟩ : ∃ b, keepB was is s = b := ⟨_, rfl⟩
  refine acalls_of (N := 23) Try.func174 rfl rfl (by simp) fun E hE => ?_
  repeat with_reducible first | apply S1 | apply S2 | apply S3 | apply S4 | apply S5 | apply S6 | apply S7 | apply S8 | refine S0 rfl ?_ | apply SA | apply SB | apply SC
  refine aw_region ?_
  refine EA rfl (ef_boxn rfl rfl (by decide) rfl (by (try simp only [nm, putL, Nat.reduceAdd, cellsOf, cvOf]) <;> rfl) rfl (by (try simp only [nm, putL, Nat.reduceAdd, cellsOf, cvOf]) <;> rfl) (by (try simp only [nm, putL, Nat.reduceAdd, cellsOf, cvOf]) <;> rfl)) ?_
  refine EA rfl (ef_boxn rfl rfl (by decide) rfl (by (try simp only [nm, putL, Nat.reduceAdd, cellsOf, cvOf]) <;> rfl) rfl (by (try simp only [nm, putL, Nat.reduceAdd, cellsOf, cvOf]) <;> rfl) (by (try simp only [nm, putL, Nat.reduceAdd, cellsOf, cvOf]) <;> rfl)) ?_
  refine al_nil ?_
  repeat with_reducible first | apply S1 | apply S2 | apply S3 | apply S4 | apply S5 | apply S6 | apply S7 | apply S8 | refine S0 rfl ?_ | apply SA | apply SB | apply SC
  refine aw_regionT [(0, none), (1, none), (2, none), (3, none), (4, none), (5, none), (6, some []), (7, none)] hMixed (by kernel_rfl) ?_
  refine RT rfl rfl rfl (by decide) (rd_loadn1 rfl Tk26 rfl (by first | exact CB rfl | exact CQ | exact CA rfl (by first | assumption | (rw [Nat.zero_add]; assumption))) (by (try simp only [nm, putL, Nat.reduceAdd, cellsOf, cvOf]) <;> rfl)) ?_
  refine M2 rfl rfl ?_
  first | refine RT rfl rfl rfl (by decide) (rd_index rfl Te26 rfl rfl rfl (by first | rfl | omega) (by omega)) ?_ | refine RT rfl rfl rfl (by decide) (rd_indexq rfl Te26 rfl rfl (by first | rfl | omega) (by assumption) rfl) ?_
  refine RT rfl rfl rfl (by decide) (rd_loadn rfl Tk36 rfl (by first | exact CB rfl | exact CQ | exact CA rfl (by first | assumption | (rw [Nat.zero_add]; assumption))) (by (try simp only [nm, putL, Nat.reduceAdd, cellsOf, cvOf]) <;> rfl) (by simp)) ?_
  refine RT rfl rfl rfl (by decide) (rd_loadn rfl Tk42 rfl (by first | exact CB rfl | exact CQ | exact CA rfl (by first | assumption | (rw [Nat.zero_add]; assumption))) (by (try simp only [nm, putL, Nat.reduceAdd, cellsOf, cvOf]) <;> rfl) (by simp)) ?_
  refine RT rfl rfl rfl (by decide) (rd_loadn rfl Tk42 rfl (by first | exact CB rfl | exact CQ | exact CA rfl (by first | assumption | (rw [Nat.zero_add]; assumption))) (by (try simp only [nm, putL, Nat.reduceAdd, cellsOf, cvOf]) <;> rfl) (by simp)) ?_
  refine at_ef rfl rfl (ef_call0 false (fun _ => idle_a s was is) rfl .fn rfl (by decide) Tc175 rfl (fun _ => C0 rfl) (by simp)) ?_
  rintro _ _ ⟨_, _, _, ⟨rfl, rfl⟩, hF, hH⟩
  rw [hkb] at hF
  (try simp only [nsl, Nat.reduceAdd, Nat.reduceLT, Nat.reduceSub] at hF); (try simp only [nsl, Nat.reduceAdd, Nat.reduceLT, Nat.reduceSub] at hH); subst hF; subst hH
  refine ⟨ag_none, ?_⟩
  refine RT rfl rfl rfl (by decide) (rd_not rfl rfl) ?_
  refine at_nil ?_
  repeat with_reducible first | apply S1 | apply S2 | apply S3 | apply S4 | apply S5 | apply S6 | apply S7 | apply S8 | refine S0 rfl ?_ | apply SA | apply SB | apply SC
  cases kb
  · refine aw_cond_f rfl ?_
    repeat with_reducible first | apply S1 | apply S2 | apply S3 | apply S4 | apply S5 | apply S6 | apply S7 | apply S8 | refine S0 rfl ?_ | apply SA | apply SB | apply SC
    exact aret_0 [some 0, some 1, some 2] (fun _ => [.box [.c (prog_r v l)], .box [.o 2 0 o.length c], .arr 36 6 c (o.map Step.row)]) (by first | exact .inl rfl | exact .inr rfl) rfl (by decide) (fun i hi => by (have hi : i < 3 := hi); (obtain rfl | rfl | rfl : i = 0 ∨ i = 1 ∨ i = 2 := (by omega)) <;> rfl) (by intro _g; (repeat first | exact K0 | apply K1 rfl | apply K2 rfl rfl | apply K2 rfl (by simp) | apply K3 | exact L0 | apply L1 | exact V1 rfl | exact V2 rfl | exact V3 rfl rfl | exact V4 | exact V5 rfl | exact V3 rfl (by first | (simp; omega) | simp) | exact V1 (by first | (simp; omega) | simp) | exact V6 rfl rfl (by first | rfl | simp) (by simp) rfl | apply V7 | apply V8 | apply V9); fail_if_success focus skip) (fun _ => ⟨c, o, rfl, by rw [keepE, hkb]; simp, rfl⟩)
  · refine aw_cond_t rfl ?_
    repeat with_reducible first | apply S1 | apply S2 | apply S3 | apply S4 | apply S5 | apply S6 | apply S7 | apply S8 | refine S0 rfl ?_ | apply SA | apply SB | apply SC
    refine aw_regionT [(0, none), (1, none), (2, none), (3, none), (4, none), (5, some [0]), (6, some []), (7, some [])] hMixed (by kernel_rfl) ?_
    refine RT rfl rfl rfl (by decide) (rd_loadn1 rfl Tk26 rfl (by first | exact CB rfl | exact CQ | exact CA rfl (by first | assumption | (rw [Nat.zero_add]; assumption))) (by (try simp only [nm, putL, Nat.reduceAdd, cellsOf, cvOf]) <;> rfl)) ?_
    refine RT rfl rfl rfl (by decide) (rd_loadn1 rfl Tk26 rfl (by first | exact CB rfl | exact CQ | exact CA rfl (by first | assumption | (rw [Nat.zero_add]; assumption))) (by (try simp only [nm, putL, Nat.reduceAdd, cellsOf, cvOf]) <;> rfl)) ?_
    refine M2 rfl rfl ?_
    first | refine RT rfl rfl rfl (by decide) (rd_index rfl Te26 rfl rfl rfl (by first | rfl | omega) (by omega)) ?_ | refine RT rfl rfl rfl (by decide) (rd_indexq rfl Te26 rfl rfl (by first | rfl | omega) (by assumption) rfl) ?_
    refine RT rfl rfl rfl (by decide) (rd_loadn rfl Tk36 rfl (by first | exact CB rfl | exact CQ | exact CA rfl (by first | assumption | (rw [Nat.zero_add]; assumption))) (by (try simp only [nm, putL, Nat.reduceAdd, cellsOf, cvOf]) <;> rfl) (by simp)) ?_
    refine at_ef2 rfl rfl (ef_buildSlicen rfl rfl (by decide) Te26 (.cons rfl rfl (.nil _)) rfl Tz36 rfl rfl (by simp) (by simp) (by (try simp only [nm, putL, Nat.reduceAdd, cellsOf, cvOf]) <;> rfl) (by (try simp only [nm, putL, Nat.reduceAdd, cellsOf, cvOf]) <;> rfl)) (ag_cons (by first | exact ag_rd rfl rfl rfl (rd_loadn1 rfl Tk26 rfl (by first | exact CB rfl | exact CQ | exact CA rfl (by first | assumption | (rw [Nat.zero_add]; assumption))) (by (try simp only [nm, putL, Nat.reduceAdd, cellsOf, cvOf]) <;> rfl)) rfl) (ag_none)) ?_
    refine at_ef rfl rfl (ef_appn rfl rfl (by decide) Ta26 rfl rfl (by first | rfl | simp | (simp; omega)) rfl (by first | exact Src.own rfl (by (try simp only [nm, putL, Nat.reduceAdd, cellsOf, cvOf]) <;> rfl) (by first | rfl | simp | (simp; omega)) | exact Src.ro (by simp) (by simp [CV.one, Value.oneCell'])) (by (try simp only [nm, putL, Nat.reduceAdd, cellsOf, cvOf]) <;> rfl) (by omega) (fun _ _ => rfl) (by intro g c2; simp only [List.map_cons, List.map_nil, killO, killV, AV.has, AV.hasL, List.contains_cons, List.contains_nil, Nat.reduceBEq, Bool.or_false, Bool.false_or, Bool.false_eq_true, beq_self_eq_true, if_false, if_true, List.set_cons_zero, List.set_cons_succ, List.nil_append]; rfl)) ?_
    rintro _ _ ⟨_, cc, hcc, rfl, rfl⟩
    refine ⟨ag_none, ?_⟩
    first | refine at_ef2 rfl rfl (ef_storen rfl rfl rfl rfl rfl Ts26 rfl (by simp) rfl (by (try simp only [nm, putL, Nat.reduceAdd, cellsOf, cvOf]) <;> rfl) (by (try simp only [nm, putL, Nat.reduceAdd, cellsOf, cvOf]) <;> rfl)) (ag_none) ?_ | refine at_ef2 rfl rfl (ef_storern rfl rfl rfl rfl (by first | assumption | (rw [Nat.zero_add]; assumption)) rfl rfl Ts26 rfl (by simp) rfl (by (try simp only [nm, putL, Nat.reduceAdd, cellsOf, cvOf]) <;> rfl) rfl) (ag_none) ?_
    refine at_nil ?_
    repeat with_reducible first | apply S1 | apply S2 | apply S3 | apply S4 | apply S5 | apply S6 | apply S7 | apply S8 | refine S0 rfl ?_ | apply SA | apply SB | apply SC
    exact aret_0 [some 0, some 1, some 2] (fun _ => [.box [.c (prog_r v l)], .box [.o 2 0 (o ++ [s]).length cc], .arr 36 6 cc ((o ++ [s]).map Step.row)]) (by first | exact .inl rfl | exact .inr rfl) rfl (by decide) (fun i hi => by (have hi : i < 3 := hi); (obtain rfl | rfl | rfl : i = 0 ∨ i = 1 ∨ i = 2 := (by omega)) <;> rfl) (by intro _g; (repeat first | exact K0 | apply K1 rfl | apply K2 rfl rfl | apply K2 rfl (by simp) | apply K3 | exact L0 | apply L1 | exact V1 rfl | exact V2 rfl | exact V3 rfl rfl | exact V4 | exact V5 rfl | exact V3 rfl (by first | (simp; omega) | simp) | exact V1 (by first | (simp; omega) | simp) | exact V6 rfl rfl (by first | rfl | simp) (by simp) rfl | apply V7 | apply V8 | apply V9); fail_if_success focus skip) (fun _ => ⟨cc, o ++ [s], rfl, by rw [keepE, hkb]; rfl, rfl⟩)
def keepJ (l : List Step) (k : Nat) (o : List Step) : Prop := o ++ keepFrom (lastS (l.take k)) (l.drop k) = keepFrom Mach.zero l ∧ o.length ≤ k
theorem keepJ_next {l : List Step} {k : Nat} {o : List Step} {s : Step} (h : keepJ l k o) (hs : l[k]? = some s) : keepJ l (k + 1) (o ++ keepE (lastS (l.take k)) (afterS (lastS (l.take k)) s) s) := by
  obtain ⟨h1, h2⟩ := h
  refine ⟨?_, ?_⟩
  · rw [← h1, drop_cons hs, lastS_succ hs, keepFrom, List.append_assoc]
  · unfold keepE; split <;> simp <;> omega
theorem sel_t {x y : Step} (h : y.k = x.k) (h2 : x.k = 3 ∨ x.k = 5) : sel x (some y) = true := by
  show (decide (y.k = x.k) && (decide (x.k = 3) || decide (x.k = 5))) = true
  rw [decide_eq_true h]; rcases h2 with h2 | h2 <;> simp [h2]
theorem sel_f {x y : Step} (h : ¬ y.k = x.k) : sel x (some y) = false := by
  show (decide (y.k = x.k) && (decide (x.k = 3) || decide (x.k = 5))) = false
  rw [decide_eq_false h]; rfl
theorem sel_g {x y : Step} (h1 : ¬ x.k = 3) (h2 : ¬ x.k = 5) : sel x (some y) = false := by
  show (decide (y.k = x.k) && (decide (x.k = 3) || decide (x.k = 5))) = false
  rw [decide_eq_false h1, decide_eq_false h2]; simp
theorem shorter_a (l : List Step) (v : Value) (hl : l.length ≤ 1000000) (hok : ∀ s ∈ l, s.ok) : ACalls Try.prog 141 [.c (prog_r v l)] [] fun u H => ∃ v', u = .c (prog_r v' (shortF l)) ∧ H = [] := by
  have h0 : keepJ l 0 [] := ⟨rfl, Nat.le_refl _⟩
  have hst : ∀ k c o s, l[k]? = some s → keepJ l k o → k ≤ 1000000 → ACalls Try.prog 174 [.c (I k), .a ((lastS (l.take k)).row.map .c), .a ((afterS (lastS (l.take k)) s).row.map .c), .p 0 0 0, .p 1 0 0] (gath l v c o) fun u H => ∃ c' o', u = .t [] ∧ keepJ l (k + 1) o' ∧ H = gath l v c' o' := fun k c o s hs hJ hk => by
    refine (shorter1_a k (lastS (l.take k)) (afterS (lastS (l.take k)) s) o c l v s hs (by have := hJ.2; omega)).mono fun u H ⟨c', o', h1, h2, h3⟩ => ⟨c', o', h1, ?_, h3⟩
    rw [h2]; exact keepJ_next hJ hs
  refine acalls_of (N := 49) Try.func141 rfl rfl (by simp) fun E hE => ?_
  repeat with_reducible first | apply S1 | apply S2 | apply S3 | apply S4 | apply S5 | apply S6 | apply S7 | apply S8 | refine S0 rfl ?_ | apply SA | apply SB | apply SC
  refine aw_region ?_
  refine EA rfl (ef_boxn rfl rfl (by decide) rfl (by (try simp only [nm, putL, Nat.reduceAdd, cellsOf, cvOf]) <;> rfl) rfl (by (try simp only [nm, putL, Nat.reduceAdd, cellsOf, cvOf]) <;> rfl) (by (try simp only [nm, putL, Nat.reduceAdd, cellsOf, cvOf]) <;> rfl)) ?_
  refine M1 rfl ?_
  refine al_nil ?_
  repeat with_reducible first | apply S1 | apply S2 | apply S3 | apply S4 | apply S5 | apply S6 | apply S7 | apply S8 | refine S0 rfl ?_ | apply SA | apply SB | apply SC
  refine aw_region ?_
  refine EA rfl (ef_allocn rfl rfl (by decide) Tz26 rfl rfl (by (try simp only [nm, putL, Nat.reduceAdd, cellsOf, cvOf]) <;> rfl) (by (try simp only [nm, putL, Nat.reduceAdd, cellsOf, cvOf]) <;> rfl)) ?_
  refine al_nil ?_
  refine aseq_n ?_
  refine aw_wk (wk_of (K := fun F H => F = [(1, .p 0 0 0), (3, .p 1 0 0)] ∧ H = [.box [.c (prog_r v l)], .box [.o 2 0 0 0], .arr 36 6 0 []]) [some 0, some 1, none] (fun _ => [(1, .p 0 0 0), (3, .p 1 0 0)]) (fun _ => [.box [.c (prog_r v l)], .box [.o 2 0 0 0], .arr 36 6 0 []]) (by decide) (by rw [hE]; exact (fun _ hi => absurd hi (Nat.not_lt_zero _))) (by intro _g; (repeat first | exact W0 | apply W1 rfl | exact L0 | apply L1 | exact V1 rfl | exact V2 rfl | exact V3 rfl rfl | exact V4 | exact V5 rfl | exact V3 rfl (by first | (simp; omega) | simp) | exact V1 (by first | (simp; omega) | simp) | exact V6 rfl rfl (by first | rfl | simp) (by simp) rfl | apply V7 | apply V8 | apply V9 | refine V1 ?_ | refine V3 rfl ?_); fail_if_success focus skip) (by intro _g; (repeat first | exact K0 | apply K1 rfl | apply K2 rfl rfl | apply K2 rfl (by simp) | apply K3 | exact L0 | apply L1 | exact V1 rfl | exact V2 rfl | exact V3 rfl rfl | exact V4 | exact V5 rfl | exact V3 rfl (by first | (simp; omega) | simp) | exact V1 (by first | (simp; omega) | simp) | exact V6 rfl rfl (by first | rfl | simp) (by simp) rfl | apply V7 | apply V8 | apply V9); fail_if_success focus skip) (fun _ => ⟨rfl, rfl⟩)) ?_
  rintro F H ⟨rfl, rfl⟩
  repeat with_reducible first | apply S1 | apply S2 | apply S3 | apply S4 | apply S5 | apply S6 | apply S7 | apply S8 | refine S0 rfl ?_ | apply SA | apply SB | apply SC
  refine aw_region ?_
  refine RA rfl rfl (by decide) (rd_loadn1 rfl Tk26 rfl (by first | exact CB rfl | exact CQ | exact CA rfl (by first | assumption | (rw [Nat.zero_add]; assumption))) (by (try simp only [nm, putL, Nat.reduceAdd, cellsOf, cvOf]) <;> rfl)) ?_
  refine RA rfl rfl (by decide) (rd_makeFunc rfl rfl) ?_
  refine al_ef rfl (ef_call [0, 1, 2] (fun _ => [.box [.c (prog_r v l)], .box [.o 2 0 0 0], .arr 36 6 0 []]) false (fun _ => runS_a 174 Tc174 (keepJ l) l v hl hok hst 0 [] h0) rfl .fn rfl (by decide) Tc92 rfl (by intro _g; (repeat first | exact K0 | apply K1 rfl | apply K2 rfl rfl | apply K2 rfl (by simp) | apply K3 | exact L0 | apply L1 | exact V1 rfl | exact V2 rfl | exact V3 rfl rfl | exact V4 | exact V5 rfl | exact V3 rfl (by first | (simp; omega) | simp) | exact V1 (by first | (simp; omega) | simp) | exact V6 rfl rfl (by first | rfl | simp) (by simp) rfl | apply V7 | apply V8 | apply V9); fail_if_success focus skip) (by decide) (by intro _g; (repeat first | exact K0 | apply K1 rfl | apply K2 rfl rfl | apply K2 rfl (by simp) | apply K3 | exact L0 | apply L1 | exact V1 rfl | exact V2 rfl | exact V3 rfl rfl | exact V4 | exact V5 rfl | exact V3 rfl (by first | (simp; omega) | simp) | exact V1 (by first | (simp; omega) | simp) | exact V6 rfl rfl (by first | rfl | simp) (by simp) rfl | apply V7 | apply V8 | apply V9); fail_if_success focus skip) (by simp)) ?_
  rintro F1 H1 ⟨_, _, _, _, ⟨c', o', rfl, hJ, hq⟩, hF, hH⟩
  subst hq
  (try simp only [List.set_cons_zero, List.set_cons_succ, updH, posOf, lentArr, killF, killO, killV, AV.has, AV.hasL, AV.emb, AV.embL, OB.emb, embB, List.filter_cons, List.filter_nil, List.getElem?_cons_zero, List.getElem?_cons_succ, List.getD_cons_zero, List.getD_cons_succ, List.drop_succ_cons, List.drop_zero, List.drop_nil, List.contains_cons, List.contains_nil, Nat.reduceBEq, Nat.reduceEqDiff, beq_self_eq_true, Bool.or_false, Bool.false_or, Bool.or_true, Bool.true_or, Bool.false_eq_true, Option.map_some, Option.map_none, List.map_cons, List.map_nil, List.cons_append, List.nil_append, List.append_nil, List.length_cons, List.length_nil, Nat.reduceAdd, Nat.reduceLT, Nat.reduceSub, if_true, if_false, Nat.zero_add, Nat.add_zero, Nat.sub_zero, Nat.lt_irrefl, Nat.not_lt_zero, Nat.zero_lt_one, Nat.lt_add_one] at hF); (try simp only [List.set_cons_zero, List.set_cons_succ, updH, posOf, lentArr, killF, killO, killV, AV.has, AV.hasL, AV.emb, AV.embL, OB.emb, embB, List.filter_cons, List.filter_nil, List.getElem?_cons_zero, List.getElem?_cons_succ, List.getD_cons_zero, List.getD_cons_succ, List.drop_succ_cons, List.drop_zero, List.drop_nil, List.contains_cons, List.contains_nil, Nat.reduceBEq, Nat.reduceEqDiff, beq_self_eq_true, Bool.or_false, Bool.false_or, Bool.or_true, Bool.true_or, Bool.false_eq_true, Option.map_some, Option.map_none, List.map_cons, List.map_nil, List.cons_append, List.nil_append, List.append_nil, List.length_cons, List.length_nil, Nat.reduceAdd, Nat.reduceLT, Nat.reduceSub, if_true, if_false, Nat.zero_add, Nat.add_zero, Nat.sub_zero, Nat.lt_irrefl, Nat.not_lt_zero, Nat.zero_lt_one, Nat.lt_add_one] at hH); subst hF; subst hH
  refine al_nil ?_
  repeat with_reducible first | apply S1 | apply S2 | apply S3 | apply S4 | apply S5 | apply S6 | apply S7 | apply S8 | refine S0 rfl ?_ | apply SA | apply SB | apply SC
  obtain ⟨hJ1, hJ2⟩ := hJ
  rw [List.drop_eq_nil_of_le (Nat.le_refl _), keepFrom, List.append_nil] at hJ1
  repeat with_reducible first | apply S1 | apply S2 | apply S3 | apply S4 | apply S5 | apply S6 | apply S7 | apply S8 | refine S0 rfl ?_ | apply SA | apply SB | apply SC
  refine aw_region ?_
  refine M1 rfl ?_
  refine al_nil ?_
  repeat with_reducible first | apply S1 | apply S2 | apply S3 | apply S4 | apply S5 | apply S6 | apply S7 | apply S8 | refine S0 rfl ?_ | apply SA | apply SB | apply SC
  refine aw_region ?_
  refine RA rfl rfl (by decide) (rd_loadn1 rfl Tk26 rfl (by first | exact CB rfl | exact CQ | exact CA rfl (by first | assumption | (rw [Nat.zero_add]; assumption))) (by (try simp only [nm, putL, Nat.reduceAdd, cellsOf, cvOf]) <;> rfl)) ?_
  refine RA rfl rfl (by decide) (rd_lx rfl Te26 rfl) ?_
  refine M1 rfl ?_
  refine al_nil ?_
  repeat with_reducible first | apply S1 | apply S2 | apply S3 | apply S4 | apply S5 | apply S6 | apply S7 | apply S8 | refine S0 rfl ?_ | apply SA | apply SB | apply SC
  refine aw_loopw (fun m F H => ∃ (k c2 : Nat) (p : List Step), m + k = o'.length ∧ p.length ≤ k ∧ p ++ dropN (o'.drop k) = dropN o' ∧ F = [(3, .p 0 0 0), (4, .o 2 0 p.length c2), (10, .o 1 0 o'.length c'), (11, .c (I o'.length)), (12, .c (I k))] ∧ H = [.box [.o 1 0 o'.length c'], .arr 36 6 c' (o'.map Step.row), .arr 36 6 c2 (p.map Step.row)]) ?_ ?_
  · refine wk_of [some 1, some 2, none] (fun _ => [(3, .p 0 0 0), (4, .o 2 0 ([] : List Step).length 0), (10, .o 1 0 o'.length c'), (11, .c (I o'.length)), (12, .c (I (0 : Nat)))]) (fun _ => [.box [.o 1 0 o'.length c'], .arr 36 6 c' (o'.map Step.row), .arr 36 6 0 (([] : List Step).map Step.row)]) (by decide) (by rw [hE]; first | exact (fun _ hi => absurd hi (Nat.not_lt_zero _)) | exact (fun i hi => by (have hi : i < 1 := hi); (have h0 : i = 0 := (by omega)); (subst h0); rfl)) (by intro _g; (repeat first | exact W0 | apply W1 rfl | exact L0 | apply L1 | exact V1 rfl | exact V2 rfl | exact V3 rfl rfl | exact V4 | exact V5 rfl | exact V3 rfl (by first | (simp; omega) | simp) | exact V1 (by first | (simp; omega) | simp) | exact V6 rfl rfl (by first | rfl | simp) (by simp) rfl | apply V7 | apply V8 | apply V9 | refine V1 ?_ | refine V3 rfl ?_); fail_if_success focus skip) (by intro _g; (repeat first | exact K0 | apply K1 rfl | apply K2 rfl rfl | apply K2 rfl (by simp) | apply K3 | exact L0 | apply L1 | exact V1 rfl | exact V2 rfl | exact V3 rfl rfl | exact V4 | exact V5 rfl | exact V3 rfl (by first | (simp; omega) | simp) | exact V1 (by first | (simp; omega) | simp) | exact V6 rfl rfl (by first | rfl | simp) (by simp) rfl | apply V7 | apply V8 | apply V9); fail_if_success focus skip) (fun _ => ?_)
    exact ⟨o'.length, 0, 0, [], by omega, by simp, rfl, rfl, rfl⟩
  rintro m F H ⟨k, c2, p, hk, hpl, hp, rfl, rfl⟩
  repeat with_reducible first | apply S1 | apply S2 | apply S3 | apply S4 | apply S5 | apply S6 | apply S7 | apply S8 | refine S0 rfl ?_ | apply SA | apply SB | apply SC
  refine aw_region ?_
  first | refine RA rfl rfl (by decide) (rd_lss_t rfl rfl rfl (by omega)) ?_ | refine RA rfl rfl (by decide) (rd_lss_f rfl rfl rfl (by omega)) ?_ | refine RA rfl rfl (by decide) (rd_lss rfl rfl rfl) ?_
  refine al_nil ?_
  repeat with_reducible first | apply S1 | apply S2 | apply S3 | apply S4 | apply S5 | apply S6 | apply S7 | apply S8 | refine S0 rfl ?_ | apply SA | apply SB | apply SC
  refine aw_if rfl (fun hlt => ?_) (fun hge => ?_)
  · obtain ⟨x, hx⟩ : ∃ x, o'[k]? = some x := ⟨_, List.getElem?_eq_getElem (by omega)⟩
    have r1 : (o'.map Step.row)[k]? = some x.row := by rw [List.getElem?_map, hx]; rfl
    repeat with_reducible first | apply S1 | apply S2 | apply S3 | apply S4 | apply S5 | apply S6 | apply S7 | apply S8 | refine S0 rfl ?_ | apply SA | apply SB | apply SC
    refine aw_region ?_
    refine M1 rfl ?_
    first | refine RA rfl rfl (by decide) (rd_index rfl Te26 rfl rfl rfl (by first | rfl | omega) (by omega)) ?_ | refine RA rfl rfl (by decide) (rd_indexq rfl Te26 rfl rfl (by first | rfl | omega) (by assumption) rfl) ?_
    refine RA rfl rfl (by decide) (rd_loadn rfl Tk36 rfl (by first | exact CB rfl | exact CQ | exact CA rfl (by first | assumption | (rw [Nat.zero_add]; assumption))) (by (try simp only [nm, putL, Nat.reduceAdd, cellsOf, cvOf]) <;> rfl) (by simp)) ?_
    refine EA rfl (ef_allocn rfl rfl (by decide) Tz36 rfl rfl (by (try simp only [nm, putL, Nat.reduceAdd, cellsOf, cvOf]) <;> rfl) (by (try simp only [nm, putL, Nat.reduceAdd, cellsOf, cvOf]) <;> rfl)) ?_
    refine M1 rfl ?_
    first | refine EA rfl (ef_storen rfl rfl rfl rfl rfl Ts36 rfl (by simp) rfl (by (try simp only [nm, putL, Nat.reduceAdd, cellsOf, cvOf]) <;> rfl) (by (try simp only [nm, putL, Nat.reduceAdd, cellsOf, cvOf]) <;> rfl)) ?_ | refine EA rfl (ef_storern rfl rfl rfl rfl (by first | assumption | (rw [Nat.zero_add]; assumption)) rfl rfl Ts36 rfl (by simp) rfl (by (try simp only [nm, putL, Nat.reduceAdd, cellsOf, cvOf]) <;> rfl) rfl) ?_
    refine al_nil ?_
    repeat with_reducible first | apply S1 | apply S2 | apply S3 | apply S4 | apply S5 | apply S6 | apply S7 | apply S8 | refine S0 rfl ?_ | apply SA | apply SB | apply SC
    by_cases hy : k + 1 < o'.length
    · obtain ⟨y, hy1⟩ : ∃ x, o'[k + 1]? = some x := ⟨_, List.getElem?_eq_getElem hy⟩
      have r2 : (o'.map Step.row)[k + 1]? = some y.row := by rw [List.getElem?_map, hy1]; rfl
      by_cases hkk : y.k = x.k
      · by_cases h3 : x.k = 3
        · have hsel : sel x o'[k + 1]? = true := by rw [hy1]; exact sel_t hkk (.inl h3)
          repeat with_reducible first | apply S1 | apply S2 | apply S3 | apply S4 | apply S5 | apply S6 | apply S7 | apply S8 | refine S0 rfl ?_ | apply SA | apply SB | apply SC
          refine aw_regionT [(0, none), (1, none), (2, none), (3, none), (4, none), (5, none), (6, none), (7, none), (8, none), (9, none), (10, none), (11, none), (12, none), (13, none), (14, none), (15, none), (16, none), (17, none), (18, none), (19, none), (20, none), (21, none), (22, none), (23, none), (24, none), (25, none)] hMixed (by kernel_rfl) ?_
          refine M2 rfl rfl ?_
          refine RT rfl rfl rfl (by decide) (rd_addy (z := ((k + 1 : Nat) : Int)) rfl rfl rfl (by omega) (by omega)) ?_
          refine RT rfl rfl rfl (by decide) (rd_loadn1 rfl Tk26 rfl (by first | exact CB rfl | exact CQ | exact CA rfl (by first | assumption | (rw [Nat.zero_add]; assumption))) (by (try simp only [nm, putL, Nat.reduceAdd, cellsOf, cvOf]) <;> rfl)) ?_
          refine RT rfl rfl rfl (by decide) (rd_lx rfl Te26 rfl) ?_
          first | refine RT rfl rfl rfl (by decide) (rd_lss_t rfl rfl rfl (by omega)) ?_ | refine RT rfl rfl rfl (by decide) (rd_lss_f rfl rfl rfl (by omega)) ?_ | refine RT rfl rfl rfl (by decide) (rd_lss rfl rfl rfl) ?_
          refine M2 rfl rfl ?_
          first | refine G3 rfl rfl rfl (by decide) (rd_loadn1 rfl Tk26 rfl (by first | exact CB rfl | exact CQ | exact CA rfl (by first | assumption | (rw [Nat.zero_add]; assumption))) (by (try simp only [nm, putL, Nat.reduceAdd, cellsOf, cvOf]) <;> rfl)) ?_ | refine G4 rfl rfl rfl (by decide) ?_
          first | refine G3 rfl rfl rfl (by decide) (rd_move rfl rfl) ?_ | refine G4 rfl rfl rfl (by decide) ?_
          first | refine G3 rfl rfl rfl (by decide) (rd_addy (z := ((k + 1 : Nat) : Int)) rfl rfl rfl (by omega) (by omega)) ?_ | refine G4 rfl rfl rfl (by decide) ?_
          first | refine G3 rfl rfl rfl (by decide) (rd_index rfl Te26 rfl rfl rfl (by first | rfl | omega) (by omega)) ?_ | refine G3 rfl rfl rfl (by decide) (rd_indexq rfl Te26 rfl rfl (by first | rfl | omega) (by assumption) rfl) ?_ | refine G4 rfl rfl rfl (by decide) ?_
          first | refine G3 rfl rfl rfl (by decide) (rd_fx rfl Tf36_0 rfl) ?_ | refine G4 rfl rfl rfl (by decide) ?_
          first | refine G3 rfl rfl rfl (by decide) (rd_loadn1 rfl Tk3 rfl (by first | exact CB rfl | exact CQ | exact CA rfl (by first | assumption | (rw [Nat.zero_add]; assumption))) (by (try simp only [nm, putL, Nat.reduceAdd, cellsOf, cvOf]) <;> rfl)) ?_ | refine G4 rfl rfl rfl (by decide) ?_
          first | refine G3 rfl rfl rfl (by decide) (rd_fx rfl Tf36_0 rfl) ?_ | refine G4 rfl rfl rfl (by decide) ?_
          first | refine G3 rfl rfl rfl (by decide) (rd_loadn1 rfl Tk3 rfl (by first | exact CB rfl | exact CQ | exact CA rfl (by first | assumption | (rw [Nat.zero_add]; assumption))) (by (try simp only [nm, putL, Nat.reduceAdd, cellsOf, cvOf]) <;> rfl)) ?_ | refine G4 rfl rfl rfl (by decide) ?_
          first | refine G3 rfl rfl rfl (by decide) (rd_eql_t rfl rfl rfl (by omega)) ?_ | refine G3 rfl rfl rfl (by decide) (rd_eql_f rfl rfl rfl (by omega)) ?_ | refine G3 rfl rfl rfl (by decide) (rd_eql rfl rfl rfl) ?_ | refine G4 rfl rfl rfl (by decide) ?_
          refine M2 rfl rfl ?_
          refine M2 rfl rfl ?_
          first | refine G3 rfl rfl rfl (by decide) (rd_fx rfl Tf36_0 rfl) ?_ | refine G4 rfl rfl rfl (by decide) ?_
          first | refine G3 rfl rfl rfl (by decide) (rd_loadn1 rfl Tk3 rfl (by first | exact CB rfl | exact CQ | exact CA rfl (by first | assumption | (rw [Nat.zero_add]; assumption))) (by (try simp only [nm, putL, Nat.reduceAdd, cellsOf, cvOf]) <;> rfl)) ?_ | refine G4 rfl rfl rfl (by decide) ?_
          first | refine G3 rfl rfl rfl (by decide) (rd_eql_t rfl rfl rfl (by omega)) ?_ | refine G3 rfl rfl rfl (by decide) (rd_eql_f rfl rfl rfl (by omega)) ?_ | refine G3 rfl rfl rfl (by decide) (rd_eql rfl rfl rfl) ?_ | refine G4 rfl rfl rfl (by decide) ?_
          first | refine G3 rfl rfl rfl (by decide) (rd_move rfl rfl) ?_ | refine G4 rfl rfl rfl (by decide) ?_
          first | refine G3 rfl rfl rfl (by decide) (rd_fx rfl Tf36_0 rfl) ?_ | refine G4 rfl rfl rfl (by decide) ?_
          first | refine G3 rfl rfl rfl (by decide) (rd_loadn1 rfl Tk3 rfl (by first | exact CB rfl | exact CQ | exact CA rfl (by first | assumption | (rw [Nat.zero_add]; assumption))) (by (try simp only [nm, putL, Nat.reduceAdd, cellsOf, cvOf]) <;> rfl)) ?_ | refine G4 rfl rfl rfl (by decide) ?_
          first | refine G3 rfl rfl rfl (by decide) (rd_eql_t rfl rfl rfl (by omega)) ?_ | refine G3 rfl rfl rfl (by decide) (rd_eql_f rfl rfl rfl (by omega)) ?_ | refine G3 rfl rfl rfl (by decide) (rd_eql rfl rfl rfl) ?_ | refine G4 rfl rfl rfl (by decide) ?_
          first | refine G3 rfl rfl rfl (by decide) (rd_pick_t rfl rfl rfl) ?_ | refine G3 rfl rfl rfl (by decide) (rd_pick_f rfl rfl rfl) ?_ | refine G4 rfl rfl rfl (by decide) ?_
          refine M2 rfl rfl ?_
          refine at_nil ?_
          repeat with_reducible first | apply S1 | apply S2 | apply S3 | apply S4 | apply S5 | apply S6 | apply S7 | apply S8 | refine S0 rfl ?_ | apply SA | apply SB | apply SC
          refine aw_cond_t rfl ?_
          repeat with_reducible first | apply S1 | apply S2 | apply S3 | apply S4 | apply S5 | apply S6 | apply S7 | apply S8 | refine S0 rfl ?_ | apply SA | apply SB | apply SC
          refine aw_region ?_
          first | refine RA rfl rfl (by decide) (rd_addn rfl rfl rfl (by omega)) ?_ | refine RA rfl rfl (by decide) (rd_add rfl rfl rfl) ?_
          refine M1 rfl ?_
          refine al_nil ?_
          repeat with_reducible first | apply S1 | apply S2 | apply S3 | apply S4 | apply S5 | apply S6 | apply S7 | apply S8 | refine S0 rfl ?_ | apply SA | apply SB | apply SC
          refine wk_of [some 0, some 1, some 2] (fun _ => [(3, .p 0 0 0), (4, .o 2 0 p.length c2), (10, .o 1 0 o'.length c'), (11, .c (I o'.length)), (12, .c (I (k + 1 : Nat)))]) (fun _ => [.box [.o 1 0 o'.length c'], .arr 36 6 c' (o'.map Step.row), .arr 36 6 c2 (p.map Step.row)]) (by decide) (by rw [hE]; first | exact (fun _ hi => absurd hi (Nat.not_lt_zero _)) | exact (fun i hi => by (have hi : i < 1 := hi); (have h0 : i = 0 := (by omega)); (subst h0); rfl)) (by intro _g; (repeat first | exact W0 | apply W1 rfl | exact L0 | apply L1 | exact V1 rfl | exact V2 rfl | exact V3 rfl rfl | exact V4 | exact V5 rfl | exact V3 rfl (by first | (simp; omega) | simp) | exact V1 (by first | (simp; omega) | simp) | exact V6 rfl rfl (by first | rfl | simp) (by simp) rfl | apply V7 | apply V8 | apply V9 | refine V1 ?_ | refine V3 rfl ?_); fail_if_success focus skip) (by intro _g; (repeat first | exact K0 | apply K1 rfl | apply K2 rfl rfl | apply K2 rfl (by simp) | apply K3 | exact L0 | apply L1 | exact V1 rfl | exact V2 rfl | exact V3 rfl rfl | exact V4 | exact V5 rfl | exact V3 rfl (by first | (simp; omega) | simp) | exact V1 (by first | (simp; omega) | simp) | exact V6 rfl rfl (by first | rfl | simp) (by simp) rfl | apply V7 | apply V8 | apply V9); fail_if_success focus skip) (fun _ => ?_)
          exact ⟨m - 1, by omega, k + 1, c2, p, by omega, by omega, by rw [← hp, dropN_at hx, hsel]; rfl, rfl, rfl⟩
        by_cases h5 : x.k = 5
        · have hsel : sel x o'[k + 1]? = true := by rw [hy1]; exact sel_t hkk (.inr h5)
          repeat with_reducible first | apply S1 | apply S2 | apply S3 | apply S4 | apply S5 | apply S6 | apply S7 | apply S8 | refine S0 rfl ?_ | apply SA | apply SB | apply SC
          refine aw_regionT [(0, none), (1, none), (2, none), (3, none), (4, none), (5, none), (6, none), (7, none), (8, none), (9, none), (10, none), (11, none), (12, none), (13, none), (14, none), (15, none), (16, none), (17, none), (18, none), (19, none), (20, none), (21, none), (22, none), (23, none), (24, none), (25, none)] hMixed (by kernel_rfl) ?_
          refine M2 rfl rfl ?_
          refine RT rfl rfl rfl (by decide) (rd_addy (z := ((k + 1 : Nat) : Int)) rfl rfl rfl (by omega) (by omega)) ?_
          refine RT rfl rfl rfl (by decide) (rd_loadn1 rfl Tk26 rfl (by first | exact CB rfl | exact CQ | exact CA rfl (by first | assumption | (rw [Nat.zero_add]; assumption))) (by (try simp only [nm, putL, Nat.reduceAdd, cellsOf, cvOf]) <;> rfl)) ?_
          refine RT rfl rfl rfl (by decide) (rd_lx rfl Te26 rfl) ?_
          first | refine RT rfl rfl rfl (by decide) (rd_lss_t rfl rfl rfl (by omega)) ?_ | refine RT rfl rfl rfl (by decide) (rd_lss_f rfl rfl rfl (by omega)) ?_ | refine RT rfl rfl rfl (by decide) (rd_lss rfl rfl rfl) ?_
          refine M2 rfl rfl ?_
          first | refine G3 rfl rfl rfl (by decide) (rd_loadn1 rfl Tk26 rfl (by first | exact CB rfl | exact CQ | exact CA rfl (by first | assumption | (rw [Nat.zero_add]; assumption))) (by (try simp only [nm, putL, Nat.reduceAdd, cellsOf, cvOf]) <;> rfl)) ?_ | refine G4 rfl rfl rfl (by decide) ?_
          first | refine G3 rfl rfl rfl (by decide) (rd_move rfl rfl) ?_ | refine G4 rfl rfl rfl (by decide) ?_
          first | refine G3 rfl rfl rfl (by decide) (rd_addy (z := ((k + 1 : Nat) : Int)) rfl rfl rfl (by omega) (by omega)) ?_ | refine G4 rfl rfl rfl (by decide) ?_
          first | refine G3 rfl rfl rfl (by decide) (rd_index rfl Te26 rfl rfl rfl (by first | rfl | omega) (by omega)) ?_ | refine G3 rfl rfl rfl (by decide) (rd_indexq rfl Te26 rfl rfl (by first | rfl | omega) (by assumption) rfl) ?_ | refine G4 rfl rfl rfl (by decide) ?_
          first | refine G3 rfl rfl rfl (by decide) (rd_fx rfl Tf36_0 rfl) ?_ | refine G4 rfl rfl rfl (by decide) ?_
          first | refine G3 rfl rfl rfl (by decide) (rd_loadn1 rfl Tk3 rfl (by first | exact CB rfl | exact CQ | exact CA rfl (by first | assumption | (rw [Nat.zero_add]; assumption))) (by (try simp only [nm, putL, Nat.reduceAdd, cellsOf, cvOf]) <;> rfl)) ?_ | refine G4 rfl rfl rfl (by decide) ?_
          first | refine G3 rfl rfl rfl (by decide) (rd_fx rfl Tf36_0 rfl) ?_ | refine G4 rfl rfl rfl (by decide) ?_
          first | refine G3 rfl rfl rfl (by decide) (rd_loadn1 rfl Tk3 rfl (by first | exact CB rfl | exact CQ | exact CA rfl (by first | assumption | (rw [Nat.zero_add]; assumption))) (by (try simp only [nm, putL, Nat.reduceAdd, cellsOf, cvOf]) <;> rfl)) ?_ | refine G4 rfl rfl rfl (by decide) ?_
          first | refine G3 rfl rfl rfl (by decide) (rd_eql_t rfl rfl rfl (by omega)) ?_ | refine G3 rfl rfl rfl (by decide) (rd_eql_f rfl rfl rfl (by omega)) ?_ | refine G3 rfl rfl rfl (by decide) (rd_eql rfl rfl rfl) ?_ | refine G4 rfl rfl rfl (by decide) ?_
          refine M2 rfl rfl ?_
          refine M2 rfl rfl ?_
          first | refine G3 rfl rfl rfl (by decide) (rd_fx rfl Tf36_0 rfl) ?_ | refine G4 rfl rfl rfl (by decide) ?_
          first | refine G3 rfl rfl rfl (by decide) (rd_loadn1 rfl Tk3 rfl (by first | exact CB rfl | exact CQ | exact CA rfl (by first | assumption | (rw [Nat.zero_add]; assumption))) (by (try simp only [nm, putL, Nat.reduceAdd, cellsOf, cvOf]) <;> rfl)) ?_ | refine G4 rfl rfl rfl (by decide) ?_
          first | refine G3 rfl rfl rfl (by decide) (rd_eql_t rfl rfl rfl (by omega)) ?_ | refine G3 rfl rfl rfl (by decide) (rd_eql_f rfl rfl rfl (by omega)) ?_ | refine G3 rfl rfl rfl (by decide) (rd_eql rfl rfl rfl) ?_ | refine G4 rfl rfl rfl (by decide) ?_
          first | refine G3 rfl rfl rfl (by decide) (rd_move rfl rfl) ?_ | refine G4 rfl rfl rfl (by decide) ?_
          first | refine G3 rfl rfl rfl (by decide) (rd_fx rfl Tf36_0 rfl) ?_ | refine G4 rfl rfl rfl (by decide) ?_
          first | refine G3 rfl rfl rfl (by decide) (rd_loadn1 rfl Tk3 rfl (by first | exact CB rfl | exact CQ | exact CA rfl (by first | assumption | (rw [Nat.zero_add]; assumption))) (by (try simp only [nm, putL, Nat.reduceAdd, cellsOf, cvOf]) <;> rfl)) ?_ | refine G4 rfl rfl rfl (by decide) ?_
          first | refine G3 rfl rfl rfl (by decide) (rd_eql_t rfl rfl rfl (by omega)) ?_ | refine G3 rfl rfl rfl (by decide) (rd_eql_f rfl rfl rfl (by omega)) ?_ | refine G3 rfl rfl rfl (by decide) (rd_eql rfl rfl rfl) ?_ | refine G4 rfl rfl rfl (by decide) ?_
          first | refine G3 rfl rfl rfl (by decide) (rd_pick_t rfl rfl rfl) ?_ | refine G3 rfl rfl rfl (by decide) (rd_pick_f rfl rfl rfl) ?_ | refine G4 rfl rfl rfl (by decide) ?_
          refine M2 rfl rfl ?_
          refine at_nil ?_
          repeat with_reducible first | apply S1 | apply S2 | apply S3 | apply S4 | apply S5 | apply S6 | apply S7 | apply S8 | refine S0 rfl ?_ | apply SA | apply SB | apply SC
          refine aw_cond_t rfl ?_
          repeat with_reducible first | apply S1 | apply S2 | apply S3 | apply S4 | apply S5 | apply S6 | apply S7 | apply S8 | refine S0 rfl ?_ | apply SA | apply SB | apply SC
          refine aw_region ?_
          first | refine RA rfl rfl (by decide) (rd_addn rfl rfl rfl (by omega)) ?_ | refine RA rfl rfl (by decide) (rd_add rfl rfl rfl) ?_
          refine M1 rfl ?_
          refine al_nil ?_
          repeat with_reducible first | apply S1 | apply S2 | apply S3 | apply S4 | apply S5 | apply S6 | apply S7 | apply S8 | refine S0 rfl ?_ | apply SA | apply SB | apply SC
          refine wk_of [some 0, some 1, some 2] (fun _ => [(3, .p 0 0 0), (4, .o 2 0 p.length c2), (10, .o 1 0 o'.length c'), (11, .c (I o'.length)), (12, .c (I (k + 1 : Nat)))]) (fun _ => [.box [.o 1 0 o'.length c'], .arr 36 6 c' (o'.map Step.row), .arr 36 6 c2 (p.map Step.row)]) (by decide) (by rw [hE]; first | exact (fun _ hi => absurd hi (Nat.not_lt_zero _)) | exact (fun i hi => by (have hi : i < 1 := hi); (have h0 : i = 0 := (by omega)); (subst h0); rfl)) (by intro _g; (repeat first | exact W0 | apply W1 rfl | exact L0 | apply L1 | exact V1 rfl | exact V2 rfl | exact V3 rfl rfl | exact V4 | exact V5 rfl | exact V3 rfl (by first | (simp; omega) | simp) | exact V1 (by first | (simp; omega) | simp) | exact V6 rfl rfl (by first | rfl | simp) (by simp) rfl | apply V7 | apply V8 | apply V9 | refine V1 ?_ | refine V3 rfl ?_); fail_if_success focus skip) (by intro _g; (repeat first | exact K0 | apply K1 rfl | apply K2 rfl rfl | apply K2 rfl (by simp) | apply K3 | exact L0 | apply L1 | exact V1 rfl | exact V2 rfl | exact V3 rfl rfl | exact V4 | exact V5 rfl | exact V3 rfl (by first | (simp; omega) | simp) | exact V1 (by first | (simp; omega) | simp) | exact V6 rfl rfl (by first | rfl | simp) (by simp) rfl | apply V7 | apply V8 | apply V9); fail_if_success focus skip) (fun _ => ?_)
          exact ⟨m - 1, by omega, k + 1, c2, p, by omega, by omega, by rw [← hp, dropN_at hx, hsel]; rfl, rfl, rfl⟩
        · have hsel : sel x o'[k + 1]? = false := by rw [hy1]; exact sel_g h3 h5
          repeat with_reducible first | apply S1 | apply S2 | apply S3 | apply S4 | apply S5 | apply S6 | apply S7 | apply S8 | refine S0 rfl ?_ | apply SA | apply SB | apply SC
          refine aw_regionT [(0, none), (1, none), (2, none), (3, none), (4, none), (5, none), (6, none), (7, none), (8, none), (9, none), (10, none), (11, none), (12, none), (13, none), (14, none), (15, none), (16, none), (17, none), (18, none), (19, none), (20, none), (21, none), (22, none), (23, none), (24, none), (25, none)] hMixed (by kernel_rfl) ?_
          refine M2 rfl rfl ?_
          refine RT rfl rfl rfl (by decide) (rd_addy (z := ((k + 1 : Nat) : Int)) rfl rfl rfl (by omega) (by omega)) ?_
          refine RT rfl rfl rfl (by decide) (rd_loadn1 rfl Tk26 rfl (by first | exact CB rfl | exact CQ | exact CA rfl (by first | assumption | (rw [Nat.zero_add]; assumption))) (by (try simp only [nm, putL, Nat.reduceAdd, cellsOf, cvOf]) <;> rfl)) ?_
          refine RT rfl rfl rfl (by decide) (rd_lx rfl Te26 rfl) ?_
          first | refine RT rfl rfl rfl (by decide) (rd_lss_t rfl rfl rfl (by omega)) ?_ | refine RT rfl rfl rfl (by decide) (rd_lss_f rfl rfl rfl (by omega)) ?_ | refine RT rfl rfl rfl (by decide) (rd_lss rfl rfl rfl) ?_
          refine M2 rfl rfl ?_
          first | refine G3 rfl rfl rfl (by decide) (rd_loadn1 rfl Tk26 rfl (by first | exact CB rfl | exact CQ | exact CA rfl (by first | assumption | (rw [Nat.zero_add]; assumption))) (by (try simp only [nm, putL, Nat.reduceAdd, cellsOf, cvOf]) <;> rfl)) ?_ | refine G4 rfl rfl rfl (by decide) ?_
          first | refine G3 rfl rfl rfl (by decide) (rd_move rfl rfl) ?_ | refine G4 rfl rfl rfl (by decide) ?_
          first | refine G3 rfl rfl rfl (by decide) (rd_addy (z := ((k + 1 : Nat) : Int)) rfl rfl rfl (by omega) (by omega)) ?_ | refine G4 rfl rfl rfl (by decide) ?_
          first | refine G3 rfl rfl rfl (by decide) (rd_index rfl Te26 rfl rfl rfl (by first | rfl | omega) (by omega)) ?_ | refine G3 rfl rfl rfl (by decide) (rd_indexq rfl Te26 rfl rfl (by first | rfl | omega) (by assumption) rfl) ?_ | refine G4 rfl rfl rfl (by decide) ?_
          first | refine G3 rfl rfl rfl (by decide) (rd_fx rfl Tf36_0 rfl) ?_ | refine G4 rfl rfl rfl (by decide) ?_
          first | refine G3 rfl rfl rfl (by decide) (rd_loadn1 rfl Tk3 rfl (by first | exact CB rfl | exact CQ | exact CA rfl (by first | assumption | (rw [Nat.zero_add]; assumption))) (by (try simp only [nm, putL, Nat.reduceAdd, cellsOf, cvOf]) <;> rfl)) ?_ | refine G4 rfl rfl rfl (by decide) ?_
          first | refine G3 rfl rfl rfl (by decide) (rd_fx rfl Tf36_0 rfl) ?_ | refine G4 rfl rfl rfl (by decide) ?_
          first | refine G3 rfl rfl rfl (by decide) (rd_loadn1 rfl Tk3 rfl (by first | exact CB rfl | exact CQ | exact CA rfl (by first | assumption | (rw [Nat.zero_add]; assumption))) (by (try simp only [nm, putL, Nat.reduceAdd, cellsOf, cvOf]) <;> rfl)) ?_ | refine G4 rfl rfl rfl (by decide) ?_
          first | refine G3 rfl rfl rfl (by decide) (rd_eql_t rfl rfl rfl (by omega)) ?_ | refine G3 rfl rfl rfl (by decide) (rd_eql_f rfl rfl rfl (by omega)) ?_ | refine G3 rfl rfl rfl (by decide) (rd_eql rfl rfl rfl) ?_ | refine G4 rfl rfl rfl (by decide) ?_
          refine M2 rfl rfl ?_
          refine M2 rfl rfl ?_
          first | refine G3 rfl rfl rfl (by decide) (rd_fx rfl Tf36_0 rfl) ?_ | refine G4 rfl rfl rfl (by decide) ?_
          first | refine G3 rfl rfl rfl (by decide) (rd_loadn1 rfl Tk3 rfl (by first | exact CB rfl | exact CQ | exact CA rfl (by first | assumption | (rw [Nat.zero_add]; assumption))) (by (try simp only [nm, putL, Nat.reduceAdd, cellsOf, cvOf]) <;> rfl)) ?_ | refine G4 rfl rfl rfl (by decide) ?_
          first | refine G3 rfl rfl rfl (by decide) (rd_eql_t rfl rfl rfl (by omega)) ?_ | refine G3 rfl rfl rfl (by decide) (rd_eql_f rfl rfl rfl (by omega)) ?_ | refine G3 rfl rfl rfl (by decide) (rd_eql rfl rfl rfl) ?_ | refine G4 rfl rfl rfl (by decide) ?_
          first | refine G3 rfl rfl rfl (by decide) (rd_move rfl rfl) ?_ | refine G4 rfl rfl rfl (by decide) ?_
          first | refine G3 rfl rfl rfl (by decide) (rd_fx rfl Tf36_0 rfl) ?_ | refine G4 rfl rfl rfl (by decide) ?_
          first | refine G3 rfl rfl rfl (by decide) (rd_loadn1 rfl Tk3 rfl (by first | exact CB rfl | exact CQ | exact CA rfl (by first | assumption | (rw [Nat.zero_add]; assumption))) (by (try simp only [nm, putL, Nat.reduceAdd, cellsOf, cvOf]) <;> rfl)) ?_ | refine G4 rfl rfl rfl (by decide) ?_
          first | refine G3 rfl rfl rfl (by decide) (rd_eql_t rfl rfl rfl (by omega)) ?_ | refine G3 rfl rfl rfl (by decide) (rd_eql_f rfl rfl rfl (by omega)) ?_ | refine G3 rfl rfl rfl (by decide) (rd_eql rfl rfl rfl) ?_ | refine G4 rfl rfl rfl (by decide) ?_
          first | refine G3 rfl rfl rfl (by decide) (rd_pick_t rfl rfl rfl) ?_ | refine G3 rfl rfl rfl (by decide) (rd_pick_f rfl rfl rfl) ?_ | refine G4 rfl rfl rfl (by decide) ?_
          refine M2 rfl rfl ?_
          refine at_nil ?_
          repeat with_reducible first | apply S1 | apply S2 | apply S3 | apply S4 | apply S5 | apply S6 | apply S7 | apply S8 | refine S0 rfl ?_ | apply SA | apply SB | apply SC
          refine aw_cond_f rfl ?_
          repeat with_reducible first | apply S1 | apply S2 | apply S3 | apply S4 | apply S5 | apply S6 | apply S7 | apply S8 | refine S0 rfl ?_ | apply SA | apply SB | apply SC
          refine aw_region ?_
          refine M1 rfl ?_
          refine RA rfl rfl (by decide) (rd_loadn rfl Tk36 rfl (by first | exact CB rfl | exact CQ | exact CA rfl (by first | assumption | (rw [Nat.zero_add]; assumption))) (by (try simp only [nm, putL, Nat.reduceAdd, cellsOf, cvOf]) <;> rfl) (by simp)) ?_
          refine EA rfl (ef_buildSlicen rfl rfl (by decide) Te26 (.cons rfl rfl (.nil _)) rfl Tz36 rfl rfl (by simp) (by simp) (by (try simp only [nm, putL, Nat.reduceAdd, cellsOf, cvOf]) <;> rfl) (by (try simp only [nm, putL, Nat.reduceAdd, cellsOf, cvOf]) <;> rfl)) ?_
          refine al_ef rfl (ef_appn rfl rfl (by decide) Ta26 rfl rfl (by first | rfl | simp | (simp; omega)) rfl (by first | exact Src.own rfl (by (try simp only [nm, putL, Nat.reduceAdd, cellsOf, cvOf]) <;> rfl) (by first | rfl | simp | (simp; omega)) | exact Src.ro (by simp) (by simp [CV.one, Value.oneCell'])) (by (try simp only [nm, putL, Nat.reduceAdd, cellsOf, cvOf]) <;> rfl) (by omega) (fun _ _ => rfl) (by intro g c2; simp only [List.map_cons, List.map_nil, killO, killV, AV.has, AV.hasL, List.contains_cons, List.contains_nil, Nat.reduceBEq, Bool.or_false, Bool.false_or, Bool.false_eq_true, beq_self_eq_true, if_false, if_true, List.set_cons_zero, List.set_cons_succ, List.nil_append]; rfl)) ?_
          rintro _ _ ⟨_, cc, hcc, rfl, rfl⟩
          refine M1 rfl ?_
          refine al_nil ?_
          repeat with_reducible first | apply S1 | apply S2 | apply S3 | apply S4 | apply S5 | apply S6 | apply S7 | apply S8 | refine S0 rfl ?_ | apply SA | apply SB | apply SC
          refine aw_region ?_
          first | refine RA rfl rfl (by decide) (rd_addn rfl rfl rfl (by omega)) ?_ | refine RA rfl rfl (by decide) (rd_add rfl rfl rfl) ?_
          refine M1 rfl ?_
          refine al_nil ?_
          repeat with_reducible first | apply S1 | apply S2 | apply S3 | apply S4 | apply S5 | apply S6 | apply S7 | apply S8 | refine S0 rfl ?_ | apply SA | apply SB | apply SC
          refine wk_of [some 0, some 1, some 2] (fun _ => [(3, .p 0 0 0), (4, .o 2 0 (p ++ [x]).length cc), (10, .o 1 0 o'.length c'), (11, .c (I o'.length)), (12, .c (I (k + 1 : Nat)))]) (fun _ => [.box [.o 1 0 o'.length c'], .arr 36 6 c' (o'.map Step.row), .arr 36 6 cc ((p ++ [x]).map Step.row)]) (by decide) (by rw [hE]; first | exact (fun _ hi => absurd hi (Nat.not_lt_zero _)) | exact (fun i hi => by (have hi : i < 1 := hi); (have h0 : i = 0 := (by omega)); (subst h0); rfl)) (by intro _g; (repeat first | exact W0 | apply W1 rfl | exact L0 | apply L1 | exact V1 rfl | exact V2 rfl | exact V3 rfl rfl | exact V4 | exact V5 rfl | exact V3 rfl (by first | (simp; omega) | simp) | exact V1 (by first | (simp; omega) | simp) | exact V6 rfl rfl (by first | rfl | simp) (by simp) rfl | apply V7 | apply V8 | apply V9 | refine V1 ?_ | refine V3 rfl ?_); fail_if_success focus skip) (by intro _g; (repeat first | exact K0 | apply K1 rfl | apply K2 rfl rfl | apply K2 rfl (by simp) | apply K3 | exact L0 | apply L1 | exact V1 rfl | exact V2 rfl | exact V3 rfl rfl | exact V4 | exact V5 rfl | exact V3 rfl (by first | (simp; omega) | simp) | exact V1 (by first | (simp; omega) | simp) | exact V6 rfl rfl (by first | rfl | simp) (by simp) rfl | apply V7 | apply V8 | apply V9); fail_if_success focus skip) (fun _ => ?_)
          exact ⟨m - 1, by omega, k + 1, cc, p ++ [x], by omega, by simp; omega, by rw [← hp, dropN_at hx, hsel]; simp, rfl, rfl⟩
      · have hsel : sel x o'[k + 1]? = false := by rw [hy1]; exact sel_f hkk
        repeat with_reducible first | apply S1 | apply S2 | apply S3 | apply S4 | apply S5 | apply S6 | apply S7 | apply S8 | refine S0 rfl ?_ | apply SA | apply SB | apply SC
        refine aw_regionT [(0, none), (1, none), (2, none), (3, none), (4, none), (5, none), (6, none), (7, none), (8, none), (9, none), (10, none), (11, none), (12, none), (13, none), (14, none), (15, none), (16, none), (17, none), (18, none), (19, none), (20, none), (21, none), (22, none), (23, none), (24, none), (25, none)] hMixed (by kernel_rfl) ?_
        refine M2 rfl rfl ?_
        refine RT rfl rfl rfl (by decide) (rd_addy (z := ((k + 1 : Nat) : Int)) rfl rfl rfl (by omega) (by omega)) ?_
        refine RT rfl rfl rfl (by decide) (rd_loadn1 rfl Tk26 rfl (by first | exact CB rfl | exact CQ | exact CA rfl (by first | assumption | (rw [Nat.zero_add]; assumption))) (by (try simp only [nm, putL, Nat.reduceAdd, cellsOf, cvOf]) <;> rfl)) ?_
        refine RT rfl rfl rfl (by decide) (rd_lx rfl Te26 rfl) ?_
        first | refine RT rfl rfl rfl (by decide) (rd_lss_t rfl rfl rfl (by omega)) ?_ | refine RT rfl rfl rfl (by decide) (rd_lss_f rfl rfl rfl (by omega)) ?_ | refine RT rfl rfl rfl (by decide) (rd_lss rfl rfl rfl) ?_
        refine M2 rfl rfl ?_
        first | refine G3 rfl rfl rfl (by decide) (rd_loadn1 rfl Tk26 rfl (by first | exact CB rfl | exact CQ | exact CA rfl (by first | assumption | (rw [Nat.zero_add]; assumption))) (by (try simp only [nm, putL, Nat.reduceAdd, cellsOf, cvOf]) <;> rfl)) ?_ | refine G4 rfl rfl rfl (by decide) ?_
        first | refine G3 rfl rfl rfl (by decide) (rd_move rfl rfl) ?_ | refine G4 rfl rfl rfl (by decide) ?_
        first | refine G3 rfl rfl rfl (by decide) (rd_addy (z := ((k + 1 : Nat) : Int)) rfl rfl rfl (by omega) (by omega)) ?_ | refine G4 rfl rfl rfl (by decide) ?_
        first | refine G3 rfl rfl rfl (by decide) (rd_index rfl Te26 rfl rfl rfl (by first | rfl | omega) (by omega)) ?_ | refine G3 rfl rfl rfl (by decide) (rd_indexq rfl Te26 rfl rfl (by first | rfl | omega) (by assumption) rfl) ?_ | refine G4 rfl rfl rfl (by decide) ?_
        first | refine G3 rfl rfl rfl (by decide) (rd_fx rfl Tf36_0 rfl) ?_ | refine G4 rfl rfl rfl (by decide) ?_
        first | refine G3 rfl rfl rfl (by decide) (rd_loadn1 rfl Tk3 rfl (by first | exact CB rfl | exact CQ | exact CA rfl (by first | assumption | (rw [Nat.zero_add]; assumption))) (by (try simp only [nm, putL, Nat.reduceAdd, cellsOf, cvOf]) <;> rfl)) ?_ | refine G4 rfl rfl rfl (by decide) ?_
        first | refine G3 rfl rfl rfl (by decide) (rd_fx rfl Tf36_0 rfl) ?_ | refine G4 rfl rfl rfl (by decide) ?_
        first | refine G3 rfl rfl rfl (by decide) (rd_loadn1 rfl Tk3 rfl (by first | exact CB rfl | exact CQ | exact CA rfl (by first | assumption | (rw [Nat.zero_add]; assumption))) (by (try simp only [nm, putL, Nat.reduceAdd, cellsOf, cvOf]) <;> rfl)) ?_ | refine G4 rfl rfl rfl (by decide) ?_
        first | refine G3 rfl rfl rfl (by decide) (rd_eql_t rfl rfl rfl (by omega)) ?_ | refine G3 rfl rfl rfl (by decide) (rd_eql_f rfl rfl rfl (by omega)) ?_ | refine G3 rfl rfl rfl (by decide) (rd_eql rfl rfl rfl) ?_ | refine G4 rfl rfl rfl (by decide) ?_
        refine M2 rfl rfl ?_
        refine M2 rfl rfl ?_
        first | refine G3 rfl rfl rfl (by decide) (rd_fx rfl Tf36_0 rfl) ?_ | refine G4 rfl rfl rfl (by decide) ?_
        first | refine G3 rfl rfl rfl (by decide) (rd_loadn1 rfl Tk3 rfl (by first | exact CB rfl | exact CQ | exact CA rfl (by first | assumption | (rw [Nat.zero_add]; assumption))) (by (try simp only [nm, putL, Nat.reduceAdd, cellsOf, cvOf]) <;> rfl)) ?_ | refine G4 rfl rfl rfl (by decide) ?_
        first | refine G3 rfl rfl rfl (by decide) (rd_eql_t rfl rfl rfl (by omega)) ?_ | refine G3 rfl rfl rfl (by decide) (rd_eql_f rfl rfl rfl (by omega)) ?_ | refine G3 rfl rfl rfl (by decide) (rd_eql rfl rfl rfl) ?_ | refine G4 rfl rfl rfl (by decide) ?_
        first | refine G3 rfl rfl rfl (by decide) (rd_move rfl rfl) ?_ | refine G4 rfl rfl rfl (by decide) ?_
        first | refine G3 rfl rfl rfl (by decide) (rd_fx rfl Tf36_0 rfl) ?_ | refine G4 rfl rfl rfl (by decide) ?_
        first | refine G3 rfl rfl rfl (by decide) (rd_loadn1 rfl Tk3 rfl (by first | exact CB rfl | exact CQ | exact CA rfl (by first | assumption | (rw [Nat.zero_add]; assumption))) (by (try simp only [nm, putL, Nat.reduceAdd, cellsOf, cvOf]) <;> rfl)) ?_ | refine G4 rfl rfl rfl (by decide) ?_
        first | refine G3 rfl rfl rfl (by decide) (rd_eql_t rfl rfl rfl (by omega)) ?_ | refine G3 rfl rfl rfl (by decide) (rd_eql_f rfl rfl rfl (by omega)) ?_ | refine G3 rfl rfl rfl (by decide) (rd_eql rfl rfl rfl) ?_ | refine G4 rfl rfl rfl (by decide) ?_
        first | refine G3 rfl rfl rfl (by decide) (rd_pick_t rfl rfl rfl) ?_ | refine G3 rfl rfl rfl (by decide) (rd_pick_f rfl rfl rfl) ?_ | refine G4 rfl rfl rfl (by decide) ?_
        refine M2 rfl rfl ?_
        refine at_nil ?_
        repeat with_reducible first | apply S1 | apply S2 | apply S3 | apply S4 | apply S5 | apply S6 | apply S7 | apply S8 | refine S0 rfl ?_ | apply SA | apply SB | apply SC
        refine aw_cond_f rfl ?_
        repeat with_reducible first | apply S1 | apply S2 | apply S3 | apply S4 | apply S5 | apply S6 | apply S7 | apply S8 | refine S0 rfl ?_ | apply SA | apply SB | apply SC
        refine aw_region ?_
        refine M1 rfl ?_
        refine RA rfl rfl (by decide) (rd_loadn rfl Tk36 rfl (by first | exact CB rfl | exact CQ | exact CA rfl (by first | assumption | (rw [Nat.zero_add]; assumption))) (by (try simp only [nm, putL, Nat.reduceAdd, cellsOf, cvOf]) <;> rfl) (by simp)) ?_
        refine EA rfl (ef_buildSlicen rfl rfl (by decide) Te26 (.cons rfl rfl (.nil _)) rfl Tz36 rfl rfl (by simp) (by simp) (by (try simp only [nm, putL, Nat.reduceAdd, cellsOf, cvOf]) <;> rfl) (by (try simp only [nm, putL, Nat.reduceAdd, cellsOf, cvOf]) <;> rfl)) ?_
        refine al_ef rfl (ef_appn rfl rfl (by decide) Ta26 rfl rfl (by first | rfl | simp | (simp; omega)) rfl (by first | exact Src.own rfl (by (try simp only [nm, putL, Nat.reduceAdd, cellsOf, cvOf]) <;> rfl) (by first | rfl | simp | (simp; omega)) | exact Src.ro (by simp) (by simp [CV.one, Value.oneCell'])) (by (try simp only [nm, putL, Nat.reduceAdd, cellsOf, cvOf]) <;> rfl) (by omega) (fun _ _ => rfl) (by intro g c2; simp only [List.map_cons, List.map_nil, killO, killV, AV.has, AV.hasL, List.contains_cons, List.contains_nil, Nat.reduceBEq, Bool.or_false, Bool.false_or, Bool.false_eq_true, beq_self_eq_true, if_false, if_true, List.set_cons_zero, List.set_cons_succ, List.nil_append]; rfl)) ?_
        rintro _ _ ⟨_, cc, hcc, rfl, rfl⟩
        refine M1 rfl ?_
        refine al_nil ?_
        repeat with_reducible first | apply S1 | apply S2 | apply S3 | apply S4 | apply S5 | apply S6 | apply S7 | apply S8 | refine S0 rfl ?_ | apply SA | apply SB | apply SC
        refine aw_region ?_
        first | refine RA rfl rfl (by decide) (rd_addn rfl rfl rfl (by omega)) ?_ | refine RA rfl rfl (by decide) (rd_add rfl rfl rfl) ?_
        refine M1 rfl ?_
        refine al_nil ?_
        repeat with_reducible first | apply S1 | apply S2 | apply S3 | apply S4 | apply S5 | apply S6 | apply S7 | apply S8 | refine S0 rfl ?_ | apply SA | apply SB | apply SC
        refine wk_of [some 0, some 1, some 2] (fun _ => [(3, .p 0 0 0), (4, .o 2 0 (p ++ [x]).length cc), (10, .o 1 0 o'.length c'), (11, .c (I o'.length)), (12, .c (I (k + 1 : Nat)))]) (fun _ => [.box [.o 1 0 o'.length c'], .arr 36 6 c' (o'.map Step.row), .arr 36 6 cc ((p ++ [x]).map Step.row)]) (by decide) (by rw [hE]; first | exact (fun _ hi => absurd hi (Nat.not_lt_zero _)) | exact (fun i hi => by (have hi : i < 1 := hi); (have h0 : i = 0 := (by omega)); (subst h0); rfl)) (by intro _g; (repeat first | exact W0 | apply W1 rfl | exact L0 | apply L1 | exact V1 rfl | exact V2 rfl | exact V3 rfl rfl | exact V4 | exact V5 rfl | exact V3 rfl (by first | (simp; omega) | simp) | exact V1 (by first | (simp; omega) | simp) | exact V6 rfl rfl (by first | rfl | simp) (by simp) rfl | apply V7 | apply V8 | apply V9 | refine V1 ?_ | refine V3 rfl ?_); fail_if_success focus skip) (by intro _g; (repeat first | exact K0 | apply K1 rfl | apply K2 rfl rfl | apply K2 rfl (by simp) | apply K3 | exact L0 | apply L1 | exact V1 rfl | exact V2 rfl | exact V3 rfl rfl | exact V4 | exact V5 rfl | exact V3 rfl (by first | (simp; omega) | simp) | exact V1 (by first | (simp; omega) | simp) | exact V6 rfl rfl (by first | rfl | simp) (by simp) rfl | apply V7 | apply V8 | apply V9); fail_if_success focus skip) (fun _ => ?_)
        exact ⟨m - 1, by omega, k + 1, cc, p ++ [x], by omega, by simp; omega, by rw [← hp, dropN_at hx, hsel]; simp, rfl, rfl⟩
    · have hsel : sel x o'[k + 1]? = false := by rw [List.getElem?_eq_none (by omega)]; rfl
      repeat with_reducible first | apply S1 | apply S2 | apply S3 | apply S4 | apply S5 | apply S6 | apply S7 | apply S8 | refine S0 rfl ?_ | apply SA | apply SB | apply SC
      refine aw_regionT [(0, none), (1, none), (2, none), (3, none), (4, none), (5, none), (6, none), (7, none), (8, none), (9, none), (10, none), (11, none), (12, none), (13, none), (14, none), (15, none), (16, none), (17, none), (18, none), (19, none), (20, none), (21, none), (22, none), (23, none), (24, none), (25, none)] hMixed (by kernel_rfl) ?_
      refine M2 rfl rfl ?_
      refine RT rfl rfl rfl (by decide) (rd_addy (z := ((k + 1 : Nat) : Int)) rfl rfl rfl (by omega) (by omega)) ?_
      refine RT rfl rfl rfl (by decide) (rd_loadn1 rfl Tk26 rfl (by first | exact CB rfl | exact CQ | exact CA rfl (by first | assumption | (rw [Nat.zero_add]; assumption))) (by (try simp only [nm, putL, Nat.reduceAdd, cellsOf, cvOf]) <;> rfl)) ?_
      refine RT rfl rfl rfl (by decide) (rd_lx rfl Te26 rfl) ?_
      first | refine RT rfl rfl rfl (by decide) (rd_lss_t rfl rfl rfl (by omega)) ?_ | refine RT rfl rfl rfl (by decide) (rd_lss_f rfl rfl rfl (by omega)) ?_ | refine RT rfl rfl rfl (by decide) (rd_lss rfl rfl rfl) ?_
      refine M2 rfl rfl ?_
      first | refine G3 rfl rfl rfl (by decide) (rd_loadn1 rfl Tk26 rfl (by first | exact CB rfl | exact CQ | exact CA rfl (by first | assumption | (rw [Nat.zero_add]; assumption))) (by (try simp only [nm, putL, Nat.reduceAdd, cellsOf, cvOf]) <;> rfl)) ?_ | refine G4 rfl rfl rfl (by decide) ?_
      first | refine G3 rfl rfl rfl (by decide) (rd_move rfl rfl) ?_ | refine G4 rfl rfl rfl (by decide) ?_
      first | refine G3 rfl rfl rfl (by decide) (rd_addy (z := ((k + 1 : Nat) : Int)) rfl rfl rfl (by omega) (by omega)) ?_ | refine G4 rfl rfl rfl (by decide) ?_
      first | refine G3 rfl rfl rfl (by decide) (rd_index rfl Te26 rfl rfl rfl (by first | rfl | omega) (by omega)) ?_ | refine G3 rfl rfl rfl (by decide) (rd_indexq rfl Te26 rfl rfl (by first | rfl | omega) (by assumption) rfl) ?_ | refine G4 rfl rfl rfl (by decide) ?_
      first | refine G3 rfl rfl rfl (by decide) (rd_fx rfl Tf36_0 rfl) ?_ | refine G4 rfl rfl rfl (by decide) ?_
      first | refine G3 rfl rfl rfl (by decide) (rd_loadn1 rfl Tk3 rfl (by first | exact CB rfl | exact CQ | exact CA rfl (by first | assumption | (rw [Nat.zero_add]; assumption))) (by (try simp only [nm, putL, Nat.reduceAdd, cellsOf, cvOf]) <;> rfl)) ?_ | refine G4 rfl rfl rfl (by decide) ?_
      first | refine G3 rfl rfl rfl (by decide) (rd_fx rfl Tf36_0 rfl) ?_ | refine G4 rfl rfl rfl (by decide) ?_
      first | refine G3 rfl rfl rfl (by decide) (rd_loadn1 rfl Tk3 rfl (by first | exact CB rfl | exact CQ | exact CA rfl (by first | assumption | (rw [Nat.zero_add]; assumption))) (by (try simp only [nm, putL, Nat.reduceAdd, cellsOf, cvOf]) <;> rfl)) ?_ | refine G4 rfl rfl rfl (by decide) ?_
      first | refine G3 rfl rfl rfl (by decide) (rd_eql_t rfl rfl rfl (by omega)) ?_ | refine G3 rfl rfl rfl (by decide) (rd_eql_f rfl rfl rfl (by omega)) ?_ | refine G3 rfl rfl rfl (by decide) (rd_eql rfl rfl rfl) ?_ | refine G4 rfl rfl rfl (by decide) ?_
      refine M2 rfl rfl ?_
      refine M2 rfl rfl ?_
      first | refine G3 rfl rfl rfl (by decide) (rd_fx rfl Tf36_0 rfl) ?_ | refine G4 rfl rfl rfl (by decide) ?_
      first | refine G3 rfl rfl rfl (by decide) (rd_loadn1 rfl Tk3 rfl (by first | exact CB rfl | exact CQ | exact CA rfl (by first | assumption | (rw [Nat.zero_add]; assumption))) (by (try simp only [nm, putL, Nat.reduceAdd, cellsOf, cvOf]) <;> rfl)) ?_ | refine G4 rfl rfl rfl (by decide) ?_
      first | refine G3 rfl rfl rfl (by decide) (rd_eql_t rfl rfl rfl (by omega)) ?_ | refine G3 rfl rfl rfl (by decide) (rd_eql_f rfl rfl rfl (by omega)) ?_ | refine G3 rfl rfl rfl (by decide) (rd_eql rfl rfl rfl) ?_ | refine G4 rfl rfl rfl (by decide) ?_
      first | refine G3 rfl rfl rfl (by decide) (rd_move rfl rfl) ?_ | refine G4 rfl rfl rfl (by decide) ?_
      first | refine G3 rfl rfl rfl (by decide) (rd_fx rfl Tf36_0 rfl) ?_ | refine G4 rfl rfl rfl (by decide) ?_
      first | refine G3 rfl rfl rfl (by decide) (rd_loadn1 rfl Tk3 rfl (by first | exact CB rfl | exact CQ | exact CA rfl (by first | assumption | (rw [Nat.zero_add]; assumption))) (by (try simp only [nm, putL, Nat.reduceAdd, cellsOf, cvOf]) <;> rfl)) ?_ | refine G4 rfl rfl rfl (by decide) ?_
      first | refine G3 rfl rfl rfl (by decide) (rd_eql_t rfl rfl rfl (by omega)) ?_ | refine G3 rfl rfl rfl (by decide) (rd_eql_f rfl rfl rfl (by omega)) ?_ | refine G3 rfl rfl rfl (by decide) (rd_eql rfl rfl rfl) ?_ | refine G4 rfl rfl rfl (by decide) ?_
      first | refine G3 rfl rfl rfl (by decide) (rd_pick_t rfl rfl rfl) ?_ | refine G3 rfl rfl rfl (by decide) (rd_pick_f rfl rfl rfl) ?_ | refine G4 rfl rfl rfl (by decide) ?_
      refine M2 rfl rfl ?_
      refine at_nil ?_
      repeat with_reducible first | apply S1 | apply S2 | apply S3 | apply S4 | apply S5 | apply S6 | apply S7 | apply S8 | refine S0 rfl ?_ | apply SA | apply SB | apply SC
      refine aw_cond_f rfl ?_
      repeat with_reducible first | apply S1 | apply S2 | apply S3 | apply S4 | apply S5 | apply S6 | apply S7 | apply S8 | refine S0 rfl ?_ | apply SA | apply SB | apply SC
      refine aw_region ?_
      refine M1 rfl ?_
      refine RA rfl rfl (by decide) (rd_loadn rfl Tk36 rfl (by first | exact CB rfl | exact CQ | exact CA rfl (by first | assumption | (rw [Nat.zero_add]; assumption))) (by (try simp only [nm, putL, Nat.reduceAdd, cellsOf, cvOf]) <;> rfl) (by simp)) ?_
      refine EA rfl (ef_buildSlicen rfl rfl (by decide) Te26 (.cons rfl rfl (.nil _)) rfl Tz36 rfl rfl (by simp) (by simp) (by (try simp only [nm, putL, Nat.reduceAdd, cellsOf, cvOf]) <;> rfl) (by (try simp only [nm, putL, Nat.reduceAdd, cellsOf, cvOf]) <;> rfl)) ?_
      refine al_ef rfl (ef_appn rfl rfl (by decide) Ta26 rfl rfl (by first | rfl | simp | (simp; omega)) rfl (by first | exact Src.own rfl (by (try simp only [nm, putL, Nat.reduceAdd, cellsOf, cvOf]) <;> rfl) (by first | rfl | simp | (simp; omega)) | exact Src.ro (by simp) (by simp [CV.one, Value.oneCell'])) (by (try simp only [nm, putL, Nat.reduceAdd, cellsOf, cvOf]) <;> rfl) (by omega) (fun _ _ => rfl) (by intro g c2; simp only [List.map_cons, List.map_nil, killO, killV, AV.has, AV.hasL, List.contains_cons, List.contains_nil, Nat.reduceBEq, Bool.or_false, Bool.false_or, Bool.false_eq_true, beq_self_eq_true, if_false, if_true, List.set_cons_zero, List.set_cons_succ, List.nil_append]; rfl)) ?_
      rintro _ _ ⟨_, cc, hcc, rfl, rfl⟩
      refine M1 rfl ?_
      refine al_nil ?_
      repeat with_reducible first | apply S1 | apply S2 | apply S3 | apply S4 | apply S5 | apply S6 | apply S7 | apply S8 | refine S0 rfl ?_ | apply SA | apply SB | apply SC
      refine aw_region ?_
      first | refine RA rfl rfl (by decide) (rd_addn rfl rfl rfl (by omega)) ?_ | refine RA rfl rfl (by decide) (rd_add rfl rfl rfl) ?_
      refine M1 rfl ?_
      refine al_nil ?_
      repeat with_reducible first | apply S1 | apply S2 | apply S3 | apply S4 | apply S5 | apply S6 | apply S7 | apply S8 | refine S0 rfl ?_ | apply SA | apply SB | apply SC
      refine wk_of [some 0, some 1, some 2] (fun _ => [(3, .p 0 0 0), (4, .o 2 0 (p ++ [x]).length cc), (10, .o 1 0 o'.length c'), (11, .c (I o'.length)), (12, .c (I (k + 1 : Nat)))]) (fun _ => [.box [.o 1 0 o'.length c'], .arr 36 6 c' (o'.map Step.row), .arr 36 6 cc ((p ++ [x]).map Step.row)]) (by decide) (by rw [hE]; first | exact (fun _ hi => absurd hi (Nat.not_lt_zero _)) | exact (fun i hi => by (have hi : i < 1 := hi); (have h0 : i = 0 := (by omega)); (subst h0); rfl)) (by intro _g; (repeat first | exact W0 | apply W1 rfl | exact L0 | apply L1 | exact V1 rfl | exact V2 rfl | exact V3 rfl rfl | exact V4 | exact V5 rfl | exact V3 rfl (by first | (simp; omega) | simp) | exact V1 (by first | (simp; omega) | simp) | exact V6 rfl rfl (by first | rfl | simp) (by simp) rfl | apply V7 | apply V8 | apply V9 | refine V1 ?_ | refine V3 rfl ?_); fail_if_success focus skip) (by intro _g; (repeat first | exact K0 | apply K1 rfl | apply K2 rfl rfl | apply K2 rfl (by simp) | apply K3 | exact L0 | apply L1 | exact V1 rfl | exact V2 rfl | exact V3 rfl rfl | exact V4 | exact V5 rfl | exact V3 rfl (by first | (simp; omega) | simp) | exact V1 (by first | (simp; omega) | simp) | exact V6 rfl rfl (by first | rfl | simp) (by simp) rfl | apply V7 | apply V8 | apply V9); fail_if_success focus skip) (fun _ => ?_)
      exact ⟨m - 1, by omega, k + 1, cc, p ++ [x], by omega, by simp; omega, by rw [← hp, dropN_at hx, hsel]; simp, rfl, rfl⟩
  obtain rfl : k = o'.length := by omega
  rw [List.drop_eq_nil_of_le (Nat.le_refl _), dropN, List.append_nil] at hp
  repeat with_reducible first | apply S1 | apply S2 | apply S3 | apply S4 | apply S5 | apply S6 | apply S7 | apply S8 | refine S0 rfl ?_ | apply SA | apply SB | apply SC
  refine aw_region ?_
  refine M1 rfl ?_
  refine M1 rfl ?_
  refine al_nil ?_
  repeat with_reducible first | apply S1 | apply S2 | apply S3 | apply S4 | apply S5 | apply S6 | apply S7 | apply S8 | refine S0 rfl ?_ | apply SA | apply SB | apply SC
  exact aret_f1 [] [] rfl rfl rfl rfl (by rw [List.drop_zero, List.take_of_length_le (by simp)]) (by simp) (by decide) (by decide) (fun _ hi => absurd hi (Nat.not_lt_zero _)) (fun _ => .nil) (fun v' => ⟨v', by rw [hp, hJ1]; rfl, rfl⟩)
end Go.Proofs.Ytpbedckdnoogpaa
