/- Whether speeds are kept, of the program and of its document, by value. -/
import Derived.Test.YtpbedckdnoogpaaMi
import Derived.Test.YtpbedckdnoogpaaNp
set_option linter.unusedSimpArgs false
set_option linter.unusedVariables false
namespace Go.Proofs.Ytpbedckdnoogpaa
open Go Go.RowKit
set_option maxRecDepth 100000
theorem kept_a (l : List Leg) (cs q : List Int) (ch : Int) (v w vq : Value) (hr : Right l cs) (hc : 1 ≤ ch ∧ ch ≤ 10000000) (hq : q.length = l.length + 1) : ACalls Try.prog 117 [.c (legs_r v l), .c (ints_r w cs), .c (ints_r vq q), .c (I ch)] [] fun u H => ∃ b : Bool, u = .c (B b) ∧ H = [] ∧ (b = true ↔ KeptP l cs q ch) := by
  have e1 : (l.map Leg.row).length = l.length := by simp
  have e2 : (cs.map fun z => [I z]).length = cs.length := by simp
  have e3 : (q.map fun z => [I z]).length = q.length := by simp
  have n1 := hr.ne
  have n2 := hr.le
  have n3 := hr.len
  have c0 := capL_zero l cs
  have cn := capL_last l cs
  have g0 := get_getD (q := q) (k := 0) (by omega)
  have gn := get_getD (q := q) (k := l.length) (by omega)
  have r0 : (q.map fun z => [I z])[0]? = some [I (q.getD 0 0)] := by rw [List.getElem?_map, g0]; rfl
  have rn : (q.map fun z => [I z])[(l.map Leg.row).length]? = some [I (q.getD l.length 0)] := by rw [e1, List.getElem?_map, gn]; rfl
  refine acalls_of (N := 103) Try.func117 rfl rfl (by simp) fun E hE => ?_
  repeat with_reducible first | refine S1 ?_ | refine S2 ?_ | refine S3 ?_ | refine S4 ?_ | refine S5 ?_ | refine S6 ?_ | refine S7 ?_ | refine S8 ?_ | refine S9 rfl ?_ | refine SA ?_ | refine SB ?_ | refine SC ?_
  refine aw_region ?_
  refine RA rfl rfl (by decide) (rd_assign rfl rfl) ?_
  refine al_nil ?_
  repeat with_reducible first | refine S1 ?_ | refine S2 ?_ | refine S3 ?_ | refine S4 ?_ | refine S5 ?_ | refine S6 ?_ | refine S7 ?_ | refine S8 ?_ | refine S9 rfl ?_ | refine SA ?_ | refine SB ?_ | refine SC ?_
  refine aw_region ?_
  refine RA rfl rfl (by decide) (rd_move rfl rfl) ?_
  first | refine RA rfl rfl (by decide) (rd_len rfl Te54 rfl) ?_ | refine RA rfl rfl (by decide) (rd_lenr rfl Te54 rfl) ?_
  refine RA rfl rfl (by decide) (rd_assign rfl rfl) ?_
  refine al_nil ?_
  repeat with_reducible first | refine S1 ?_ | refine S2 ?_ | refine S3 ?_ | refine S4 ?_ | refine S5 ?_ | refine S6 ?_ | refine S7 ?_ | refine S8 ?_ | refine S9 rfl ?_ | refine SA ?_ | refine SB ?_ | refine SC ?_
  by_cases z0 : q.getD 0 0 = 0
  · by_cases zn : q.getD l.length 0 = 0
    · repeat with_reducible first | refine S1 ?_ | refine S2 ?_ | refine S3 ?_ | refine S4 ?_ | refine S5 ?_ | refine S6 ?_ | refine S7 ?_ | refine S8 ?_ | refine S9 rfl ?_ | refine SA ?_ | refine SB ?_ | refine SC ?_
      refine aw_region ?_
      refine RA rfl rfl (by decide) (rd_move rfl rfl) ?_
      first | refine RA rfl rfl (by decide) (rd_index rfl Te22 rfl rfl rfl (by first | rfl | omega) (by omega)) ?_ | refine RA rfl rfl (by decide) (rd_indexq rfl Te22 rfl rfl (by first | rfl | omega) (by assumption) rfl) ?_
      refine RA rfl rfl (by decide) (rd_loadn1 rfl Tk3 rfl (by first | exact CB rfl | exact CQ | exact CA rfl (by first | assumption | (rw [Nat.zero_add]; assumption))) (by (try simp only [nm, putL, Nat.reduceAdd, cellsOf, cvOf]) <;> rfl)) ?_
      first | refine RA rfl rfl (by decide) (rd_neq_t rfl rfl rfl (by omega)) ?_ | refine RA rfl rfl (by decide) (rd_neq_f rfl rfl rfl (by omega)) ?_ | refine RA rfl rfl (by decide) (rd_neq rfl rfl rfl) ?_
      refine RA rfl rfl (by decide) (rd_move rfl rfl) ?_
      first | (refine G1 rfl ?_; (refine RA rfl rfl (by decide) (rd_move rfl rfl) ?_)) | refine G2 rfl rfl (by decide) ?_
      first | (refine G1 rfl ?_; (refine RA rfl rfl (by decide) (rd_move rfl rfl) ?_)) | refine G2 rfl rfl (by decide) ?_
      first | (refine G1 rfl ?_; (first | refine RA rfl rfl (by decide) (rd_index rfl Te22 rfl rfl rfl (by first | rfl | omega) (by omega)) ?_ | refine RA rfl rfl (by decide) (rd_indexq rfl Te22 rfl rfl (by first | rfl | omega) (by assumption) rfl) ?_)) | refine G2 rfl rfl (by decide) ?_
      first | (refine G1 rfl ?_; (refine RA rfl rfl (by decide) (rd_loadn1 rfl Tk3 rfl (by first | exact CB rfl | exact CQ | exact CA rfl (by first | assumption | (rw [Nat.zero_add]; assumption))) (by (try simp only [nm, putL, Nat.reduceAdd, cellsOf, cvOf]) <;> rfl)) ?_)) | refine G2 rfl rfl (by decide) ?_
      first | (refine G1 rfl ?_; (first | refine RA rfl rfl (by decide) (rd_neq_t rfl rfl rfl (by omega)) ?_ | refine RA rfl rfl (by decide) (rd_neq_f rfl rfl rfl (by omega)) ?_ | refine RA rfl rfl (by decide) (rd_neq rfl rfl rfl) ?_)) | refine G2 rfl rfl (by decide) ?_
      first | refine RA rfl rfl (by decide) (rd_pick_t rfl rfl rfl) ?_ | refine RA rfl rfl (by decide) (rd_pick_f rfl rfl rfl) ?_
      refine al_nil ?_
      repeat with_reducible first | refine S1 ?_ | refine S2 ?_ | refine S3 ?_ | refine S4 ?_ | refine S5 ?_ | refine S6 ?_ | refine S7 ?_ | refine S8 ?_ | refine S9 rfl ?_ | refine SA ?_ | refine SB ?_ | refine SC ?_
      refine aw_cond_f rfl ?_
      repeat with_reducible first | refine S1 ?_ | refine S2 ?_ | refine S3 ?_ | refine S4 ?_ | refine S5 ?_ | refine S6 ?_ | refine S7 ?_ | refine S8 ?_ | refine S9 rfl ?_ | refine SA ?_ | refine SB ?_ | refine SC ?_
      repeat with_reducible first | refine S1 ?_ | refine S2 ?_ | refine S3 ?_ | refine S4 ?_ | refine S5 ?_ | refine S6 ?_ | refine S7 ?_ | refine S8 ?_ | refine S9 rfl ?_ | refine SA ?_ | refine SB ?_ | refine SC ?_
      refine aw_region ?_
      refine RA rfl rfl (by decide) (rd_move rfl rfl) ?_
      first | refine RA rfl rfl (by decide) (rd_len rfl Te22 rfl) ?_ | refine RA rfl rfl (by decide) (rd_lenr rfl Te22 rfl) ?_
      refine RA rfl rfl (by decide) (rd_move rfl rfl) ?_
      refine al_nil ?_
      repeat with_reducible first | refine S1 ?_ | refine S2 ?_ | refine S3 ?_ | refine S4 ?_ | refine S5 ?_ | refine S6 ?_ | refine S7 ?_ | refine S8 ?_ | refine S9 rfl ?_ | refine SA ?_ | refine SB ?_ | refine SC ?_
      refine aw_loopw (fun m F H => ∃ (k : Nat), m + k = l.length + 1 ∧ (∀ i, i < k → 0 ≤ q.getD i 0 ∧ q.getD i 0 ≤ capL l cs i) ∧ F = [(0, .c (legs_r v l)), (1, .c (ints_r w cs)), (2, .c (ints_r vq q)), (3, .c (I ch)), (9, .c (I (l.map Leg.row).length)), (27, .c (ints_r vq q)), (28, .c (I (q.map fun z => [I z]).length)), (29, .c (I k))] ∧ H = []) ?_ ?_
      · refine wk_of [] (fun _ => [(0, .c (legs_r v l)), (1, .c (ints_r w cs)), (2, .c (ints_r vq q)), (3, .c (I ch)), (9, .c (I (l.map Leg.row).length)), (27, .c (ints_r vq q)), (28, .c (I (q.map fun z => [I z]).length)), (29, .c (I (0 : Nat)))]) (fun _ => _) (by decide) (by rw [hE]; first | exact (fun _ hi => absurd hi (Nat.not_lt_zero _)) | exact (fun i hi => by (have hi : i < 1 := hi); (have h0 : i = 0 := (by omega)); (subst h0); rfl)) (by intro _g; (repeat first | exact W0 | apply W1 rfl | exact L0 | apply L1 | exact V1 rfl | exact V2 rfl | exact V3 rfl rfl | exact V4 | exact V5 rfl | exact V3 rfl (by simp; omega) | exact V1 (by simp; omega) | exact V3 rfl (by simp) | exact V1 (by simp) | exact V6 rfl rfl (by first | rfl | simp) (by simp) rfl | apply V7 | apply V8 | apply V9 | refine V1 ?_ | refine V3 rfl ?_); fail_if_success focus skip) (by intro _g; (repeat first | exact K0 | apply K1 rfl | apply K2 rfl rfl | apply K2 rfl (by simp) | apply K3 | exact L0 | apply L1 | exact V1 rfl | exact V2 rfl | exact V3 rfl rfl | exact V4 | exact V5 rfl | exact V3 rfl (by simp; omega) | exact V1 (by simp; omega) | exact V3 rfl (by simp) | exact V1 (by simp) | exact V6 rfl rfl (by first | rfl | simp) (by simp) rfl | apply V7 | apply V8 | apply V9); fail_if_success focus skip) (fun _ => ?_)
        exact ⟨l.length + 1, 0, by omega, fun i hi => absurd hi (Nat.not_lt_zero _), rfl, rfl⟩
      rintro m F H ⟨k, hk, hfst, rfl, rfl⟩
      repeat with_reducible first | refine S1 ?_ | refine S2 ?_ | refine S3 ?_ | refine S4 ?_ | refine S5 ?_ | refine S6 ?_ | refine S7 ?_ | refine S8 ?_ | refine S9 rfl ?_ | refine SA ?_ | refine SB ?_ | refine SC ?_
      refine aw_region ?_
      first | refine RA rfl rfl (by decide) (rd_lss_t rfl rfl rfl (by omega)) ?_ | refine RA rfl rfl (by decide) (rd_lss_f rfl rfl rfl (by omega)) ?_ | refine RA rfl rfl (by decide) (rd_lss rfl rfl rfl) ?_
      refine al_nil ?_
      repeat with_reducible first | refine S1 ?_ | refine S2 ?_ | refine S3 ?_ | refine S4 ?_ | refine S5 ?_ | refine S6 ?_ | refine S7 ?_ | refine S8 ?_ | refine S9 rfl ?_ | refine SA ?_ | refine SB ?_ | refine SC ?_
      refine aw_if rfl (fun hlt => ?_) (fun hge => ?_)
      · have ga := get_getD (q := q) (k := k) (by omega)
        have r4 : (q.map fun z => [I z])[k]? = some [I (q.getD k 0)] := by rw [List.getElem?_map, ga]; rfl
        repeat with_reducible first | refine S1 ?_ | refine S2 ?_ | refine S3 ?_ | refine S4 ?_ | refine S5 ?_ | refine S6 ?_ | refine S7 ?_ | refine S8 ?_ | refine S9 rfl ?_ | refine SA ?_ | refine SB ?_ | refine SC ?_
        refine aw_region ?_
        refine RA rfl rfl (by decide) (rd_move rfl rfl) ?_
        first | refine RA rfl rfl (by decide) (rd_index rfl Te22 rfl rfl rfl (by first | rfl | omega) (by omega)) ?_ | refine RA rfl rfl (by decide) (rd_indexq rfl Te22 rfl rfl (by first | rfl | omega) (by assumption) rfl) ?_
        refine RA rfl rfl (by decide) (rd_loadn1 rfl Tk3 rfl (by first | exact CB rfl | exact CQ | exact CA rfl (by first | assumption | (rw [Nat.zero_add]; assumption))) (by (try simp only [nm, putL, Nat.reduceAdd, cellsOf, cvOf]) <;> rfl)) ?_
        refine RA rfl rfl (by decide) (rd_assign rfl rfl) ?_
        refine RA rfl rfl (by decide) (rd_assign rfl rfl) ?_
        refine al_nil ?_
        repeat with_reducible first | refine S1 ?_ | refine S2 ?_ | refine S3 ?_ | refine S4 ?_ | refine S5 ?_ | refine S6 ?_ | refine S7 ?_ | refine S8 ?_ | refine S9 rfl ?_ | refine SA ?_ | refine SB ?_ | refine SC ?_
        by_cases hk0 : k = 0
        · repeat with_reducible first | refine S1 ?_ | refine S2 ?_ | refine S3 ?_ | refine S4 ?_ | refine S5 ?_ | refine S6 ?_ | refine S7 ?_ | refine S8 ?_ | refine S9 rfl ?_ | refine SA ?_ | refine SB ?_ | refine SC ?_
          refine aw_region ?_
          refine RA rfl rfl (by decide) (rd_move rfl rfl) ?_
          first | refine RA rfl rfl (by decide) (rd_eql_t rfl rfl rfl (by omega)) ?_ | refine RA rfl rfl (by decide) (rd_eql_f rfl rfl rfl (by omega)) ?_ | refine RA rfl rfl (by decide) (rd_eql rfl rfl rfl) ?_
          refine RA rfl rfl (by decide) (rd_move rfl rfl) ?_
          first | (refine G1 rfl ?_; (refine RA rfl rfl (by decide) (rd_move rfl rfl) ?_)) | refine G2 rfl rfl (by decide) ?_
          first | (refine G1 rfl ?_; (refine RA rfl rfl (by decide) (rd_move rfl rfl) ?_)) | refine G2 rfl rfl (by decide) ?_
          first | (refine G1 rfl ?_; (first | refine RA rfl rfl (by decide) (rd_eql_t rfl rfl rfl (by omega)) ?_ | refine RA rfl rfl (by decide) (rd_eql_f rfl rfl rfl (by omega)) ?_ | refine RA rfl rfl (by decide) (rd_eql rfl rfl rfl) ?_)) | refine G2 rfl rfl (by decide) ?_
          first | refine RA rfl rfl (by decide) (rd_pick_t rfl rfl rfl) ?_ | refine RA rfl rfl (by decide) (rd_pick_f rfl rfl rfl) ?_
          refine RA rfl rfl (by decide) (rd_assign rfl rfl) ?_
          refine al_nil ?_
          repeat with_reducible first | refine S1 ?_ | refine S2 ?_ | refine S3 ?_ | refine S4 ?_ | refine S5 ?_ | refine S6 ?_ | refine S7 ?_ | refine S8 ?_ | refine S9 rfl ?_ | refine SA ?_ | refine SB ?_ | refine SC ?_
          refine aw_cond_t rfl ?_
          repeat with_reducible first | refine S1 ?_ | refine S2 ?_ | refine S3 ?_ | refine S4 ?_ | refine S5 ?_ | refine S6 ?_ | refine S7 ?_ | refine S8 ?_ | refine S9 rfl ?_ | refine SA ?_ | refine SB ?_ | refine SC ?_
          repeat with_reducible first | refine S1 ?_ | refine S2 ?_ | refine S3 ?_ | refine S4 ?_ | refine S5 ?_ | refine S6 ?_ | refine S7 ?_ | refine S8 ?_ | refine S9 rfl ?_ | refine SA ?_ | refine SB ?_ | refine SC ?_
          refine aw_region ?_
          first | refine RA rfl rfl (by decide) (rd_addn rfl rfl rfl (by omega)) ?_ | refine RA rfl rfl (by decide) (rd_add rfl rfl rfl) ?_
          refine RA rfl rfl (by decide) (rd_move rfl rfl) ?_
          refine al_nil ?_
          repeat with_reducible first | refine S1 ?_ | refine S2 ?_ | refine S3 ?_ | refine S4 ?_ | refine S5 ?_ | refine S6 ?_ | refine S7 ?_ | refine S8 ?_ | refine S9 rfl ?_ | refine SA ?_ | refine SB ?_ | refine SC ?_
          refine wk_of [] (fun _ => [(0, .c (legs_r v l)), (1, .c (ints_r w cs)), (2, .c (ints_r vq q)), (3, .c (I ch)), (9, .c (I (l.map Leg.row).length)), (27, .c (ints_r vq q)), (28, .c (I (q.map fun z => [I z]).length)), (29, .c (I (k + 1 : Nat)))]) (fun _ => _) (by decide) (by rw [hE]; first | exact (fun _ hi => absurd hi (Nat.not_lt_zero _)) | exact (fun i hi => by (have hi : i < 1 := hi); (have h0 : i = 0 := (by omega)); (subst h0); rfl)) (by intro _g; (repeat first | exact W0 | apply W1 rfl | exact L0 | apply L1 | exact V1 rfl | exact V2 rfl | exact V3 rfl rfl | exact V4 | exact V5 rfl | exact V3 rfl (by simp; omega) | exact V1 (by simp; omega) | exact V3 rfl (by simp) | exact V1 (by simp) | exact V6 rfl rfl (by first | rfl | simp) (by simp) rfl | apply V7 | apply V8 | apply V9 | refine V1 ?_ | refine V3 rfl ?_); fail_if_success focus skip) (by intro _g; (repeat first | exact K0 | apply K1 rfl | apply K2 rfl rfl | apply K2 rfl (by simp) | apply K3 | exact L0 | apply L1 | exact V1 rfl | exact V2 rfl | exact V3 rfl rfl | exact V4 | exact V5 rfl | exact V3 rfl (by simp; omega) | exact V1 (by simp; omega) | exact V3 rfl (by simp) | exact V1 (by simp) | exact V6 rfl rfl (by first | rfl | simp) (by simp) rfl | apply V7 | apply V8 | apply V9); fail_if_success focus skip) (fun _ => ?_)
          exact ⟨m - 1, by omega, k + 1, by omega, fun i hi => by
            by_cases hik : i = k
            · subst hik; rw [hk0, z0, c0]; omega
            · exact hfst i (by omega), rfl, rfl⟩
        by_cases hkn : k = l.length
        · repeat with_reducible first | refine S1 ?_ | refine S2 ?_ | refine S3 ?_ | refine S4 ?_ | refine S5 ?_ | refine S6 ?_ | refine S7 ?_ | refine S8 ?_ | refine S9 rfl ?_ | refine SA ?_ | refine SB ?_ | refine SC ?_
          refine aw_region ?_
          refine RA rfl rfl (by decide) (rd_move rfl rfl) ?_
          first | refine RA rfl rfl (by decide) (rd_eql_t rfl rfl rfl (by omega)) ?_ | refine RA rfl rfl (by decide) (rd_eql_f rfl rfl rfl (by omega)) ?_ | refine RA rfl rfl (by decide) (rd_eql rfl rfl rfl) ?_
          refine RA rfl rfl (by decide) (rd_move rfl rfl) ?_
          first | (refine G1 rfl ?_; (refine RA rfl rfl (by decide) (rd_move rfl rfl) ?_)) | refine G2 rfl rfl (by decide) ?_
          first | (refine G1 rfl ?_; (refine RA rfl rfl (by decide) (rd_move rfl rfl) ?_)) | refine G2 rfl rfl (by decide) ?_
          first | (refine G1 rfl ?_; (first | refine RA rfl rfl (by decide) (rd_eql_t rfl rfl rfl (by omega)) ?_ | refine RA rfl rfl (by decide) (rd_eql_f rfl rfl rfl (by omega)) ?_ | refine RA rfl rfl (by decide) (rd_eql rfl rfl rfl) ?_)) | refine G2 rfl rfl (by decide) ?_
          first | refine RA rfl rfl (by decide) (rd_pick_t rfl rfl rfl) ?_ | refine RA rfl rfl (by decide) (rd_pick_f rfl rfl rfl) ?_
          refine RA rfl rfl (by decide) (rd_assign rfl rfl) ?_
          refine al_nil ?_
          repeat with_reducible first | refine S1 ?_ | refine S2 ?_ | refine S3 ?_ | refine S4 ?_ | refine S5 ?_ | refine S6 ?_ | refine S7 ?_ | refine S8 ?_ | refine S9 rfl ?_ | refine SA ?_ | refine SB ?_ | refine SC ?_
          refine aw_cond_t rfl ?_
          repeat with_reducible first | refine S1 ?_ | refine S2 ?_ | refine S3 ?_ | refine S4 ?_ | refine S5 ?_ | refine S6 ?_ | refine S7 ?_ | refine S8 ?_ | refine S9 rfl ?_ | refine SA ?_ | refine SB ?_ | refine SC ?_
          repeat with_reducible first | refine S1 ?_ | refine S2 ?_ | refine S3 ?_ | refine S4 ?_ | refine S5 ?_ | refine S6 ?_ | refine S7 ?_ | refine S8 ?_ | refine S9 rfl ?_ | refine SA ?_ | refine SB ?_ | refine SC ?_
          refine aw_region ?_
          first | refine RA rfl rfl (by decide) (rd_addn rfl rfl rfl (by omega)) ?_ | refine RA rfl rfl (by decide) (rd_add rfl rfl rfl) ?_
          refine RA rfl rfl (by decide) (rd_move rfl rfl) ?_
          refine al_nil ?_
          repeat with_reducible first | refine S1 ?_ | refine S2 ?_ | refine S3 ?_ | refine S4 ?_ | refine S5 ?_ | refine S6 ?_ | refine S7 ?_ | refine S8 ?_ | refine S9 rfl ?_ | refine SA ?_ | refine SB ?_ | refine SC ?_
          refine wk_of [] (fun _ => [(0, .c (legs_r v l)), (1, .c (ints_r w cs)), (2, .c (ints_r vq q)), (3, .c (I ch)), (9, .c (I (l.map Leg.row).length)), (27, .c (ints_r vq q)), (28, .c (I (q.map fun z => [I z]).length)), (29, .c (I (k + 1 : Nat)))]) (fun _ => _) (by decide) (by rw [hE]; first | exact (fun _ hi => absurd hi (Nat.not_lt_zero _)) | exact (fun i hi => by (have hi : i < 1 := hi); (have h0 : i = 0 := (by omega)); (subst h0); rfl)) (by intro _g; (repeat first | exact W0 | apply W1 rfl | exact L0 | apply L1 | exact V1 rfl | exact V2 rfl | exact V3 rfl rfl | exact V4 | exact V5 rfl | exact V3 rfl (by simp; omega) | exact V1 (by simp; omega) | exact V3 rfl (by simp) | exact V1 (by simp) | exact V6 rfl rfl (by first | rfl | simp) (by simp) rfl | apply V7 | apply V8 | apply V9 | refine V1 ?_ | refine V3 rfl ?_); fail_if_success focus skip) (by intro _g; (repeat first | exact K0 | apply K1 rfl | apply K2 rfl rfl | apply K2 rfl (by simp) | apply K3 | exact L0 | apply L1 | exact V1 rfl | exact V2 rfl | exact V3 rfl rfl | exact V4 | exact V5 rfl | exact V3 rfl (by simp; omega) | exact V1 (by simp; omega) | exact V3 rfl (by simp) | exact V1 (by simp) | exact V6 rfl rfl (by first | rfl | simp) (by simp) rfl | apply V7 | apply V8 | apply V9); fail_if_success focus skip) (fun _ => ?_)
          exact ⟨m - 1, by omega, k + 1, by omega, fun i hi => by
            by_cases hik : i = k
            · subst hik; rw [hkn, zn, cn]; omega
            · exact hfst i (by omega), rfl, rfl⟩
        obtain ⟨j, rfl⟩ : ∃ j, k = j + 1 := ⟨k - 1, by omega⟩
        obtain ⟨x, hx⟩ : ∃ x, l[j]? = some x := ⟨_, List.getElem?_eq_getElem (by omega)⟩
        obtain ⟨y, hy⟩ : ∃ x, l[j + 1]? = some x := ⟨_, List.getElem?_eq_getElem (by omega)⟩
        obtain ⟨c, hcc⟩ : ∃ x, cs[j]? = some x := ⟨_, List.getElem?_eq_getElem (by omega)⟩
        have r1 : (l.map Leg.row)[j]? = some [I x.long, I x.limit] := by rw [List.getElem?_map, hx]; rfl
        have r2 : (l.map Leg.row)[j + 1]? = some [I y.long, I y.limit] := by rw [List.getElem?_map, hy]; rfl
        have r3 : (cs.map fun z => [I z])[j]? = some [I c] := by rw [List.getElem?_map, hcc]; rfl
        have hcm := capL_mid hx hy hcc
        repeat with_reducible first | refine S1 ?_ | refine S2 ?_ | refine S3 ?_ | refine S4 ?_ | refine S5 ?_ | refine S6 ?_ | refine S7 ?_ | refine S8 ?_ | refine S9 rfl ?_ | refine SA ?_ | refine SB ?_ | refine SC ?_
        refine aw_region ?_
        refine RA rfl rfl (by decide) (rd_move rfl rfl) ?_
        first | refine RA rfl rfl (by decide) (rd_eql_t rfl rfl rfl (by omega)) ?_ | refine RA rfl rfl (by decide) (rd_eql_f rfl rfl rfl (by omega)) ?_ | refine RA rfl rfl (by decide) (rd_eql rfl rfl rfl) ?_
        refine RA rfl rfl (by decide) (rd_move rfl rfl) ?_
        first | (refine G1 rfl ?_; (refine RA rfl rfl (by decide) (rd_move rfl rfl) ?_)) | refine G2 rfl rfl (by decide) ?_
        first | (refine G1 rfl ?_; (refine RA rfl rfl (by decide) (rd_move rfl rfl) ?_)) | refine G2 rfl rfl (by decide) ?_
        first | (refine G1 rfl ?_; (first | refine RA rfl rfl (by decide) (rd_eql_t rfl rfl rfl (by omega)) ?_ | refine RA rfl rfl (by decide) (rd_eql_f rfl rfl rfl (by omega)) ?_ | refine RA rfl rfl (by decide) (rd_eql rfl rfl rfl) ?_)) | refine G2 rfl rfl (by decide) ?_
        first | refine RA rfl rfl (by decide) (rd_pick_t rfl rfl rfl) ?_ | refine RA rfl rfl (by decide) (rd_pick_f rfl rfl rfl) ?_
        refine RA rfl rfl (by decide) (rd_assign rfl rfl) ?_
        refine al_nil ?_
        repeat with_reducible first | refine S1 ?_ | refine S2 ?_ | refine S3 ?_ | refine S4 ?_ | refine S5 ?_ | refine S6 ?_ | refine S7 ?_ | refine S8 ?_ | refine S9 rfl ?_ | refine SA ?_ | refine SB ?_ | refine SC ?_
        refine aw_cond_f rfl ?_
        repeat with_reducible first | refine S1 ?_ | refine S2 ?_ | refine S3 ?_ | refine S4 ?_ | refine S5 ?_ | refine S6 ?_ | refine S7 ?_ | refine S8 ?_ | refine S9 rfl ?_ | refine SA ?_ | refine SB ?_ | refine SC ?_
        by_cases ha : q.getD (j + 1) 0 < 0
        · repeat with_reducible first | refine S1 ?_ | refine S2 ?_ | refine S3 ?_ | refine S4 ?_ | refine S5 ?_ | refine S6 ?_ | refine S7 ?_ | refine S8 ?_ | refine S9 rfl ?_ | refine SA ?_ | refine SB ?_ | refine SC ?_
          refine aw_regionT [(0, none), (1, none), (2, none), (3, none), (4, none), (5, none), (6, none), (7, none), (8, none), (9, none), (10, none), (11, none), (12, none), (13, none), (14, none), (15, none), (16, none), (17, none), (18, none), (19, none), (20, none), (21, none), (22, none), (23, none)] hMixed (by kernel_rfl) ?_
          refine RT rfl rfl rfl (by decide) (rd_move rfl rfl) ?_
          first | refine RT rfl rfl rfl (by decide) (rd_lss_t rfl rfl rfl (by omega)) ?_ | refine RT rfl rfl rfl (by decide) (rd_lss_f rfl rfl rfl (by omega)) ?_ | refine RT rfl rfl rfl (by decide) (rd_lss rfl rfl rfl) ?_
          refine RT rfl rfl rfl (by decide) (rd_move rfl rfl) ?_
          first | refine at_gon rfl rfl rfl rfl rfl rfl (by decide) (rd_move rfl rfl) ?_ | refine at_skip rfl rfl rfl rfl rfl rfl rfl (by decide) ?_ | refine at_skipu rfl rfl rfl rfl rfl rfl (by decide) ?_
          first | refine at_gon rfl rfl rfl rfl rfl rfl (by decide) (rd_move rfl rfl) ?_ | refine at_skip rfl rfl rfl rfl rfl rfl rfl (by decide) ?_ | refine at_skipu rfl rfl rfl rfl rfl rfl (by decide) ?_
          first | refine at_gon rfl rfl rfl rfl rfl rfl (by decide) (rd_move rfl rfl) ?_ | refine at_skip rfl rfl rfl rfl rfl rfl rfl (by decide) ?_ | refine at_skipu rfl rfl rfl rfl rfl rfl (by decide) ?_
          first | refine at_gon rfl rfl rfl rfl rfl rfl (by decide) (rd_subz (z := (j : Int)) rfl rfl rfl (by omega) (by omega)) ?_ | refine at_skip rfl rfl rfl rfl rfl rfl rfl (by decide) ?_ | refine at_skipu rfl rfl rfl rfl rfl rfl (by decide) ?_
          first | refine at_gon rfl rfl rfl rfl rfl rfl (by decide) (rd_index rfl Te22 rfl rfl rfl (by first | rfl | omega) (by omega)) ?_ | refine at_gon rfl rfl rfl rfl rfl rfl (by decide) (rd_indexq rfl Te22 rfl rfl (by first | rfl | omega) (by assumption) rfl) ?_ | refine at_skip rfl rfl rfl rfl rfl rfl rfl (by decide) ?_ | refine at_skipu rfl rfl rfl rfl rfl rfl (by decide) ?_
          first | refine at_gon rfl rfl rfl rfl rfl rfl (by decide) (rd_loadn1 rfl Tk3 rfl (by first | exact CB rfl | exact CQ | exact CA rfl (by first | assumption | (rw [Nat.zero_add]; assumption))) (by (try simp only [nm, putL, Nat.reduceAdd, cellsOf, cvOf]) <;> rfl)) ?_ | refine at_skip rfl rfl rfl rfl rfl rfl rfl (by decide) ?_ | refine at_skipu rfl rfl rfl rfl rfl rfl (by decide) ?_
          first | refine at_gon rfl rfl rfl rfl rfl rfl (by decide) (rd_move rfl rfl) ?_ | refine at_skip rfl rfl rfl rfl rfl rfl rfl (by decide) ?_ | refine at_skipu rfl rfl rfl rfl rfl rfl (by decide) ?_
          first | refine at_gon rfl rfl rfl rfl rfl rfl (by decide) (rd_move rfl rfl) ?_ | refine at_skip rfl rfl rfl rfl rfl rfl rfl (by decide) ?_ | refine at_skipu rfl rfl rfl rfl rfl rfl (by decide) ?_
          first | refine at_gon rfl rfl rfl rfl rfl rfl (by decide) (rd_subz (z := (j : Int)) rfl rfl rfl (by omega) (by omega)) ?_ | refine at_skip rfl rfl rfl rfl rfl rfl rfl (by decide) ?_ | refine at_skipu rfl rfl rfl rfl rfl rfl (by decide) ?_
          first | refine at_gon rfl rfl rfl rfl rfl rfl (by decide) (rd_index rfl Te54 rfl rfl rfl (by first | rfl | omega) (by omega)) ?_ | refine at_gon rfl rfl rfl rfl rfl rfl (by decide) (rd_indexq rfl Te54 rfl rfl (by first | rfl | omega) (by assumption) rfl) ?_ | refine at_skip rfl rfl rfl rfl rfl rfl rfl (by decide) ?_ | refine at_skipu rfl rfl rfl rfl rfl rfl (by decide) ?_
          first | refine at_gon rfl rfl rfl rfl rfl rfl (by decide) (rd_field rfl rfl Tf64_1) ?_ | refine at_gon rfl rfl rfl rfl rfl rfl (by decide) (rd_fieldq rfl rfl Tf64_1) ?_ | refine at_skip rfl rfl rfl rfl rfl rfl rfl (by decide) ?_ | refine at_skipu rfl rfl rfl rfl rfl rfl (by decide) ?_
          first | refine at_gon rfl rfl rfl rfl rfl rfl (by decide) (rd_loadn1 rfl Tk3 rfl (by first | exact CB rfl | exact CQ | exact CA rfl (by first | assumption | (rw [Nat.zero_add]; assumption))) (by (try simp only [nm, putL, Nat.reduceAdd, cellsOf, cvOf]) <;> rfl)) ?_ | refine at_skip rfl rfl rfl rfl rfl rfl rfl (by decide) ?_ | refine at_skipu rfl rfl rfl rfl rfl rfl (by decide) ?_
          first | refine at_gon rfl rfl rfl rfl rfl rfl (by decide) (rd_move rfl rfl) ?_ | refine at_skip rfl rfl rfl rfl rfl rfl rfl (by decide) ?_ | refine at_skipu rfl rfl rfl rfl rfl rfl (by decide) ?_
          first | refine at_gon rfl rfl rfl rfl rfl rfl (by decide) (rd_move rfl rfl) ?_ | refine at_skip rfl rfl rfl rfl rfl rfl rfl (by decide) ?_ | refine at_skipu rfl rfl rfl rfl rfl rfl (by decide) ?_
          first | refine at_gon rfl rfl rfl rfl rfl rfl (by decide) (rd_index rfl Te54 rfl rfl rfl (by first | rfl | omega) (by omega)) ?_ | refine at_gon rfl rfl rfl rfl rfl rfl (by decide) (rd_indexq rfl Te54 rfl rfl (by first | rfl | omega) (by assumption) rfl) ?_ | refine at_skip rfl rfl rfl rfl rfl rfl rfl (by decide) ?_ | refine at_skipu rfl rfl rfl rfl rfl rfl (by decide) ?_
          first | refine at_gon rfl rfl rfl rfl rfl rfl (by decide) (rd_field rfl rfl Tf64_1) ?_ | refine at_gon rfl rfl rfl rfl rfl rfl (by decide) (rd_fieldq rfl rfl Tf64_1) ?_ | refine at_skip rfl rfl rfl rfl rfl rfl rfl (by decide) ?_ | refine at_skipu rfl rfl rfl rfl rfl rfl (by decide) ?_
          first | refine at_gon rfl rfl rfl rfl rfl rfl (by decide) (rd_loadn1 rfl Tk3 rfl (by first | exact CB rfl | exact CQ | exact CA rfl (by first | assumption | (rw [Nat.zero_add]; assumption))) (by (try simp only [nm, putL, Nat.reduceAdd, cellsOf, cvOf]) <;> rfl)) ?_ | refine at_skip rfl rfl rfl rfl rfl rfl rfl (by decide) ?_ | refine at_skipu rfl rfl rfl rfl rfl rfl (by decide) ?_
          first | refine at_gon rfl rfl rfl rfl rfl rfl (by decide) (rd_min3 rfl rfl rfl rfl) ?_ | refine at_skip rfl rfl rfl rfl rfl rfl rfl (by decide) ?_ | refine at_skipu rfl rfl rfl rfl rfl rfl (by decide) ?_
          first | refine at_gon rfl rfl rfl rfl rfl rfl (by decide) (rd_gtr_t rfl rfl rfl (by omega)) ?_ | refine at_gon rfl rfl rfl rfl rfl rfl (by decide) (rd_gtr_f rfl rfl rfl (by omega)) ?_ | refine at_gon rfl rfl rfl rfl rfl rfl (by decide) (rd_gtr rfl rfl rfl) ?_ | refine at_skip rfl rfl rfl rfl rfl rfl rfl (by decide) ?_ | refine at_skipu rfl rfl rfl rfl rfl rfl (by decide) ?_
          first | refine RT rfl rfl rfl (by decide) (rd_pick_t rfl rfl rfl) ?_ | refine RT rfl rfl rfl (by decide) (rd_pick_f rfl rfl rfl) ?_
          refine RT rfl rfl rfl (by decide) (rd_assign rfl rfl) ?_
          refine at_nil ?_
          repeat with_reducible first | refine S1 ?_ | refine S2 ?_ | refine S3 ?_ | refine S4 ?_ | refine S5 ?_ | refine S6 ?_ | refine S7 ?_ | refine S8 ?_ | refine S9 rfl ?_ | refine SA ?_ | refine SB ?_ | refine SC ?_
          refine aw_cond_t rfl ?_
          repeat with_reducible first | refine S1 ?_ | refine S2 ?_ | refine S3 ?_ | refine S4 ?_ | refine S5 ?_ | refine S6 ?_ | refine S7 ?_ | refine S8 ?_ | refine S9 rfl ?_ | refine SA ?_ | refine SB ?_ | refine SC ?_
          refine aw_region ?_
          refine RA rfl rfl (by decide) (rd_assign rfl rfl) ?_
          refine al_nil ?_
          repeat with_reducible first | refine S1 ?_ | refine S2 ?_ | refine S3 ?_ | refine S4 ?_ | refine S5 ?_ | refine S6 ?_ | refine S7 ?_ | refine S8 ?_ | refine S9 rfl ?_ | refine SA ?_ | refine SB ?_ | refine SC ?_
          exact aret_1 [] _ rfl rfl rfl (by decide) (fun _ hi => absurd hi (Nat.not_lt_zero _)) (by intro _g; (repeat first | exact K0 | apply K1 rfl | apply K2 rfl rfl | apply K2 rfl (by simp) | apply K3 | exact L0 | apply L1 | exact V1 rfl | exact V2 rfl | exact V3 rfl rfl | exact V4 | exact V5 rfl | exact V3 rfl (by simp; omega) | exact V1 (by simp; omega) | exact V3 rfl (by simp) | exact V1 (by simp) | exact V6 rfl rfl (by first | rfl | simp) (by simp) rfl | apply V7 | apply V8 | apply V9); fail_if_success focus skip) ⟨false, rfl, rfl, by simp only [Bool.false_eq_true, false_iff]; intro hK; have h2 := hK.1 (j + 1) (by omega); omega⟩
        · repeat with_reducible first | refine S1 ?_ | refine S2 ?_ | refine S3 ?_ | refine S4 ?_ | refine S5 ?_ | refine S6 ?_ | refine S7 ?_ | refine S8 ?_ | refine S9 rfl ?_ | refine SA ?_ | refine SB ?_ | refine SC ?_
          refine aw_regionT [(0, none), (1, none), (2, none), (3, none), (4, none), (5, none), (6, none), (7, none), (8, none), (9, none), (10, none), (11, none), (12, none), (13, none), (14, none), (15, none), (16, none), (17, none), (18, none), (19, none), (20, none), (21, none), (22, none), (23, none)] hMixed (by kernel_rfl) ?_
          refine RT rfl rfl rfl (by decide) (rd_move rfl rfl) ?_
          first | refine RT rfl rfl rfl (by decide) (rd_lss_t rfl rfl rfl (by omega)) ?_ | refine RT rfl rfl rfl (by decide) (rd_lss_f rfl rfl rfl (by omega)) ?_ | refine RT rfl rfl rfl (by decide) (rd_lss rfl rfl rfl) ?_
          refine RT rfl rfl rfl (by decide) (rd_move rfl rfl) ?_
          first | refine at_gon rfl rfl rfl rfl rfl rfl (by decide) (rd_move rfl rfl) ?_ | refine at_skip rfl rfl rfl rfl rfl rfl rfl (by decide) ?_ | refine at_skipu rfl rfl rfl rfl rfl rfl (by decide) ?_
          first | refine at_gon rfl rfl rfl rfl rfl rfl (by decide) (rd_move rfl rfl) ?_ | refine at_skip rfl rfl rfl rfl rfl rfl rfl (by decide) ?_ | refine at_skipu rfl rfl rfl rfl rfl rfl (by decide) ?_
          first | refine at_gon rfl rfl rfl rfl rfl rfl (by decide) (rd_move rfl rfl) ?_ | refine at_skip rfl rfl rfl rfl rfl rfl rfl (by decide) ?_ | refine at_skipu rfl rfl rfl rfl rfl rfl (by decide) ?_
          first | refine at_gon rfl rfl rfl rfl rfl rfl (by decide) (rd_subz (z := (j : Int)) rfl rfl rfl (by omega) (by omega)) ?_ | refine at_skip rfl rfl rfl rfl rfl rfl rfl (by decide) ?_ | refine at_skipu rfl rfl rfl rfl rfl rfl (by decide) ?_
          first | refine at_gon rfl rfl rfl rfl rfl rfl (by decide) (rd_index rfl Te22 rfl rfl rfl (by first | rfl | omega) (by omega)) ?_ | refine at_gon rfl rfl rfl rfl rfl rfl (by decide) (rd_indexq rfl Te22 rfl rfl (by first | rfl | omega) (by assumption) rfl) ?_ | refine at_skip rfl rfl rfl rfl rfl rfl rfl (by decide) ?_ | refine at_skipu rfl rfl rfl rfl rfl rfl (by decide) ?_
          first | refine at_gon rfl rfl rfl rfl rfl rfl (by decide) (rd_loadn1 rfl Tk3 rfl (by first | exact CB rfl | exact CQ | exact CA rfl (by first | assumption | (rw [Nat.zero_add]; assumption))) (by (try simp only [nm, putL, Nat.reduceAdd, cellsOf, cvOf]) <;> rfl)) ?_ | refine at_skip rfl rfl rfl rfl rfl rfl rfl (by decide) ?_ | refine at_skipu rfl rfl rfl rfl rfl rfl (by decide) ?_
          first | refine at_gon rfl rfl rfl rfl rfl rfl (by decide) (rd_move rfl rfl) ?_ | refine at_skip rfl rfl rfl rfl rfl rfl rfl (by decide) ?_ | refine at_skipu rfl rfl rfl rfl rfl rfl (by decide) ?_
          first | refine at_gon rfl rfl rfl rfl rfl rfl (by decide) (rd_move rfl rfl) ?_ | refine at_skip rfl rfl rfl rfl rfl rfl rfl (by decide) ?_ | refine at_skipu rfl rfl rfl rfl rfl rfl (by decide) ?_
          first | refine at_gon rfl rfl rfl rfl rfl rfl (by decide) (rd_subz (z := (j : Int)) rfl rfl rfl (by omega) (by omega)) ?_ | refine at_skip rfl rfl rfl rfl rfl rfl rfl (by decide) ?_ | refine at_skipu rfl rfl rfl rfl rfl rfl (by decide) ?_
          first | refine at_gon rfl rfl rfl rfl rfl rfl (by decide) (rd_index rfl Te54 rfl rfl rfl (by first | rfl | omega) (by omega)) ?_ | refine at_gon rfl rfl rfl rfl rfl rfl (by decide) (rd_indexq rfl Te54 rfl rfl (by first | rfl | omega) (by assumption) rfl) ?_ | refine at_skip rfl rfl rfl rfl rfl rfl rfl (by decide) ?_ | refine at_skipu rfl rfl rfl rfl rfl rfl (by decide) ?_
          first | refine at_gon rfl rfl rfl rfl rfl rfl (by decide) (rd_field rfl rfl Tf64_1) ?_ | refine at_gon rfl rfl rfl rfl rfl rfl (by decide) (rd_fieldq rfl rfl Tf64_1) ?_ | refine at_skip rfl rfl rfl rfl rfl rfl rfl (by decide) ?_ | refine at_skipu rfl rfl rfl rfl rfl rfl (by decide) ?_
          first | refine at_gon rfl rfl rfl rfl rfl rfl (by decide) (rd_loadn1 rfl Tk3 rfl (by first | exact CB rfl | exact CQ | exact CA rfl (by first | assumption | (rw [Nat.zero_add]; assumption))) (by (try simp only [nm, putL, Nat.reduceAdd, cellsOf, cvOf]) <;> rfl)) ?_ | refine at_skip rfl rfl rfl rfl rfl rfl rfl (by decide) ?_ | refine at_skipu rfl rfl rfl rfl rfl rfl (by decide) ?_
          first | refine at_gon rfl rfl rfl rfl rfl rfl (by decide) (rd_move rfl rfl) ?_ | refine at_skip rfl rfl rfl rfl rfl rfl rfl (by decide) ?_ | refine at_skipu rfl rfl rfl rfl rfl rfl (by decide) ?_
          first | refine at_gon rfl rfl rfl rfl rfl rfl (by decide) (rd_move rfl rfl) ?_ | refine at_skip rfl rfl rfl rfl rfl rfl rfl (by decide) ?_ | refine at_skipu rfl rfl rfl rfl rfl rfl (by decide) ?_
          first | refine at_gon rfl rfl rfl rfl rfl rfl (by decide) (rd_index rfl Te54 rfl rfl rfl (by first | rfl | omega) (by omega)) ?_ | refine at_gon rfl rfl rfl rfl rfl rfl (by decide) (rd_indexq rfl Te54 rfl rfl (by first | rfl | omega) (by assumption) rfl) ?_ | refine at_skip rfl rfl rfl rfl rfl rfl rfl (by decide) ?_ | refine at_skipu rfl rfl rfl rfl rfl rfl (by decide) ?_
          first | refine at_gon rfl rfl rfl rfl rfl rfl (by decide) (rd_field rfl rfl Tf64_1) ?_ | refine at_gon rfl rfl rfl rfl rfl rfl (by decide) (rd_fieldq rfl rfl Tf64_1) ?_ | refine at_skip rfl rfl rfl rfl rfl rfl rfl (by decide) ?_ | refine at_skipu rfl rfl rfl rfl rfl rfl (by decide) ?_
          first | refine at_gon rfl rfl rfl rfl rfl rfl (by decide) (rd_loadn1 rfl Tk3 rfl (by first | exact CB rfl | exact CQ | exact CA rfl (by first | assumption | (rw [Nat.zero_add]; assumption))) (by (try simp only [nm, putL, Nat.reduceAdd, cellsOf, cvOf]) <;> rfl)) ?_ | refine at_skip rfl rfl rfl rfl rfl rfl rfl (by decide) ?_ | refine at_skipu rfl rfl rfl rfl rfl rfl (by decide) ?_
          first | refine at_gon rfl rfl rfl rfl rfl rfl (by decide) (rd_min3 rfl rfl rfl rfl) ?_ | refine at_skip rfl rfl rfl rfl rfl rfl rfl (by decide) ?_ | refine at_skipu rfl rfl rfl rfl rfl rfl (by decide) ?_
          first | refine at_gon rfl rfl rfl rfl rfl rfl (by decide) (rd_gtr_t rfl rfl rfl (by omega)) ?_ | refine at_gon rfl rfl rfl rfl rfl rfl (by decide) (rd_gtr_f rfl rfl rfl (by omega)) ?_ | refine at_gon rfl rfl rfl rfl rfl rfl (by decide) (rd_gtr rfl rfl rfl) ?_ | refine at_skip rfl rfl rfl rfl rfl rfl rfl (by decide) ?_ | refine at_skipu rfl rfl rfl rfl rfl rfl (by decide) ?_
          first | refine RT rfl rfl rfl (by decide) (rd_pick_t rfl rfl rfl) ?_ | refine RT rfl rfl rfl (by decide) (rd_pick_f rfl rfl rfl) ?_
          refine RT rfl rfl rfl (by decide) (rd_assign rfl rfl) ?_
          refine at_nil ?_
          repeat with_reducible first | refine S1 ?_ | refine S2 ?_ | refine S3 ?_ | refine S4 ?_ | refine S5 ?_ | refine S6 ?_ | refine S7 ?_ | refine S8 ?_ | refine S9 rfl ?_ | refine SA ?_ | refine SB ?_ | refine SC ?_
          refine aw_if rfl (fun hgt => ?_) (fun hle => ?_)
          · repeat with_reducible first | refine S1 ?_ | refine S2 ?_ | refine S3 ?_ | refine S4 ?_ | refine S5 ?_ | refine S6 ?_ | refine S7 ?_ | refine S8 ?_ | refine S9 rfl ?_ | refine SA ?_ | refine SB ?_ | refine SC ?_
            refine aw_region ?_
            refine RA rfl rfl (by decide) (rd_assign rfl rfl) ?_
            refine al_nil ?_
            repeat with_reducible first | refine S1 ?_ | refine S2 ?_ | refine S3 ?_ | refine S4 ?_ | refine S5 ?_ | refine S6 ?_ | refine S7 ?_ | refine S8 ?_ | refine S9 rfl ?_ | refine SA ?_ | refine SB ?_ | refine SC ?_
            exact aret_1 [] _ rfl rfl rfl (by decide) (fun _ hi => absurd hi (Nat.not_lt_zero _)) (by intro _g; (repeat first | exact K0 | apply K1 rfl | apply K2 rfl rfl | apply K2 rfl (by simp) | apply K3 | exact L0 | apply L1 | exact V1 rfl | exact V2 rfl | exact V3 rfl rfl | exact V4 | exact V5 rfl | exact V3 rfl (by simp; omega) | exact V1 (by simp; omega) | exact V3 rfl (by simp) | exact V1 (by simp) | exact V6 rfl rfl (by first | rfl | simp) (by simp) rfl | apply V7 | apply V8 | apply V9); fail_if_success focus skip) ⟨false, rfl, rfl, by simp only [Bool.false_eq_true, false_iff]; intro hK; have h2 := hK.1 (j + 1) (by omega); rw [hcm] at h2; omega⟩
          · repeat with_reducible first | refine S1 ?_ | refine S2 ?_ | refine S3 ?_ | refine S4 ?_ | refine S5 ?_ | refine S6 ?_ | refine S7 ?_ | refine S8 ?_ | refine S9 rfl ?_ | refine SA ?_ | refine SB ?_ | refine SC ?_
            repeat with_reducible first | refine S1 ?_ | refine S2 ?_ | refine S3 ?_ | refine S4 ?_ | refine S5 ?_ | refine S6 ?_ | refine S7 ?_ | refine S8 ?_ | refine S9 rfl ?_ | refine SA ?_ | refine SB ?_ | refine SC ?_
            refine aw_region ?_
            first | refine RA rfl rfl (by decide) (rd_addn rfl rfl rfl (by omega)) ?_ | refine RA rfl rfl (by decide) (rd_add rfl rfl rfl) ?_
            refine RA rfl rfl (by decide) (rd_move rfl rfl) ?_
            refine al_nil ?_
            repeat with_reducible first | refine S1 ?_ | refine S2 ?_ | refine S3 ?_ | refine S4 ?_ | refine S5 ?_ | refine S6 ?_ | refine S7 ?_ | refine S8 ?_ | refine S9 rfl ?_ | refine SA ?_ | refine SB ?_ | refine SC ?_
            refine wk_of [] (fun _ => [(0, .c (legs_r v l)), (1, .c (ints_r w cs)), (2, .c (ints_r vq q)), (3, .c (I ch)), (9, .c (I (l.map Leg.row).length)), (27, .c (ints_r vq q)), (28, .c (I (q.map fun z => [I z]).length)), (29, .c (I ((j + 1) + 1 : Nat)))]) (fun _ => _) (by decide) (by rw [hE]; first | exact (fun _ hi => absurd hi (Nat.not_lt_zero _)) | exact (fun i hi => by (have hi : i < 1 := hi); (have h0 : i = 0 := (by omega)); (subst h0); rfl)) (by intro _g; (repeat first | exact W0 | apply W1 rfl | exact L0 | apply L1 | exact V1 rfl | exact V2 rfl | exact V3 rfl rfl | exact V4 | exact V5 rfl | exact V3 rfl (by simp; omega) | exact V1 (by simp; omega) | exact V3 rfl (by simp) | exact V1 (by simp) | exact V6 rfl rfl (by first | rfl | simp) (by simp) rfl | apply V7 | apply V8 | apply V9 | refine V1 ?_ | refine V3 rfl ?_); fail_if_success focus skip) (by intro _g; (repeat first | exact K0 | apply K1 rfl | apply K2 rfl rfl | apply K2 rfl (by simp) | apply K3 | exact L0 | apply L1 | exact V1 rfl | exact V2 rfl | exact V3 rfl rfl | exact V4 | exact V5 rfl | exact V3 rfl (by simp; omega) | exact V1 (by simp; omega) | exact V3 rfl (by simp) | exact V1 (by simp) | exact V6 rfl rfl (by first | rfl | simp) (by simp) rfl | apply V7 | apply V8 | apply V9); fail_if_success focus skip) (fun _ => ?_)
            exact ⟨m - 1, by omega, (j + 1) + 1, by omega, fun i hi => by
              by_cases hik : i = (j + 1)
              · subst hik; rw [hcm]; omega
              · exact hfst i (by omega), rfl, rfl⟩
      obtain rfl : k = l.length + 1 := by omega
      clear hk hge
      have hfst : ∀ i, i ≤ l.length → 0 ≤ q.getD i 0 ∧ q.getD i 0 ≤ capL l cs i := fun i hi => hfst i (by omega)
      repeat with_reducible first | refine S1 ?_ | refine S2 ?_ | refine S3 ?_ | refine S4 ?_ | refine S5 ?_ | refine S6 ?_ | refine S7 ?_ | refine S8 ?_ | refine S9 rfl ?_ | refine SA ?_ | refine SB ?_ | refine SC ?_
      repeat with_reducible first | refine S1 ?_ | refine S2 ?_ | refine S3 ?_ | refine S4 ?_ | refine S5 ?_ | refine S6 ?_ | refine S7 ?_ | refine S8 ?_ | refine S9 rfl ?_ | refine SA ?_ | refine SB ?_ | refine SC ?_
      refine aw_region ?_
      refine RA rfl rfl (by decide) (rd_move rfl rfl) ?_
      first | refine RA rfl rfl (by decide) (rd_len rfl Te54 rfl) ?_ | refine RA rfl rfl (by decide) (rd_lenr rfl Te54 rfl) ?_
      refine RA rfl rfl (by decide) (rd_move rfl rfl) ?_
      refine al_nil ?_
      repeat with_reducible first | refine S1 ?_ | refine S2 ?_ | refine S3 ?_ | refine S4 ?_ | refine S5 ?_ | refine S6 ?_ | refine S7 ?_ | refine S8 ?_ | refine S9 rfl ?_ | refine SA ?_ | refine SB ?_ | refine SC ?_
      refine aw_loopw (fun m F H => ∃ (k : Nat), m + k = l.length ∧ (∀ i, i < k → max (q.getD i 0 * q.getD i 0 - q.getD (i + 1) 0 * q.getD (i + 1) 0) (-(q.getD i 0 * q.getD i 0 - q.getD (i + 1) 0 * q.getD (i + 1) 0)) ≤ disL l ch i) ∧ F = [(2, .c (ints_r vq q)), (3, .c (I ch)), (67, .c (legs_r v l)), (68, .c (I (l.map Leg.row).length)), (69, .c (I k))] ∧ H = []) ?_ ?_
      · refine wk_of [] (fun _ => [(2, .c (ints_r vq q)), (3, .c (I ch)), (67, .c (legs_r v l)), (68, .c (I (l.map Leg.row).length)), (69, .c (I (0 : Nat)))]) (fun _ => _) (by decide) (by rw [hE]; first | exact (fun _ hi => absurd hi (Nat.not_lt_zero _)) | exact (fun i hi => by (have hi : i < 1 := hi); (have h0 : i = 0 := (by omega)); (subst h0); rfl)) (by intro _g; (repeat first | exact W0 | apply W1 rfl | exact L0 | apply L1 | exact V1 rfl | exact V2 rfl | exact V3 rfl rfl | exact V4 | exact V5 rfl | exact V3 rfl (by simp; omega) | exact V1 (by simp; omega) | exact V3 rfl (by simp) | exact V1 (by simp) | exact V6 rfl rfl (by first | rfl | simp) (by simp) rfl | apply V7 | apply V8 | apply V9 | refine V1 ?_ | refine V3 rfl ?_); fail_if_success focus skip) (by intro _g; (repeat first | exact K0 | apply K1 rfl | apply K2 rfl rfl | apply K2 rfl (by simp) | apply K3 | exact L0 | apply L1 | exact V1 rfl | exact V2 rfl | exact V3 rfl rfl | exact V4 | exact V5 rfl | exact V3 rfl (by simp; omega) | exact V1 (by simp; omega) | exact V3 rfl (by simp) | exact V1 (by simp) | exact V6 rfl rfl (by first | rfl | simp) (by simp) rfl | apply V7 | apply V8 | apply V9); fail_if_success focus skip) (fun _ => ?_)
        exact ⟨l.length, 0, by omega, fun i hi => absurd hi (Nat.not_lt_zero _), rfl, rfl⟩
      rintro m F H ⟨k, hk, hsec, rfl, rfl⟩
      repeat with_reducible first | refine S1 ?_ | refine S2 ?_ | refine S3 ?_ | refine S4 ?_ | refine S5 ?_ | refine S6 ?_ | refine S7 ?_ | refine S8 ?_ | refine S9 rfl ?_ | refine SA ?_ | refine SB ?_ | refine SC ?_
      refine aw_region ?_
      first | refine RA rfl rfl (by decide) (rd_lss_t rfl rfl rfl (by omega)) ?_ | refine RA rfl rfl (by decide) (rd_lss_f rfl rfl rfl (by omega)) ?_ | refine RA rfl rfl (by decide) (rd_lss rfl rfl rfl) ?_
      refine al_nil ?_
      repeat with_reducible first | refine S1 ?_ | refine S2 ?_ | refine S3 ?_ | refine S4 ?_ | refine S5 ?_ | refine S6 ?_ | refine S7 ?_ | refine S8 ?_ | refine S9 rfl ?_ | refine SA ?_ | refine SB ?_ | refine SC ?_
      refine aw_if rfl (fun hlt => ?_) (fun hge => ?_)
      · obtain ⟨x, hx⟩ : ∃ x, l[k]? = some x := ⟨_, List.getElem?_eq_getElem (by omega)⟩
        have hxg := hr.legs x (List.mem_of_getElem? hx)
        have hd := dis_b hc hxg
        obtain ⟨hx1, hx2, hx3, hx4⟩ := hxg
        have hdl := disL_of (ch := ch) hx
        have r1 : (l.map Leg.row)[k]? = some [I x.long, I x.limit] := by rw [List.getElem?_map, hx]; rfl
        have ca := hfst k (by omega)
        have cb := hfst (k + 1) (by omega)
        have da := (hr.cap k).2
        have db := (hr.cap (k + 1)).2
        have ga := get_getD (q := q) (k := k) (by omega)
        have gb := get_getD (q := q) (k := k + 1) (by omega)
        obtain ⟨a, ha⟩ : ∃ a, q.getD k 0 = a := ⟨_, rfl⟩
        obtain ⟨b, hb⟩ : ∃ a, q.getD (k + 1) 0 = a := ⟨_, rfl⟩
        rw [ha] at ca ga; rw [hb] at cb gb
        have r4 : (q.map fun z => [I z])[k]? = some [I a] := by rw [List.getElem?_map, ga]; rfl
        have r5 : (q.map fun z => [I z])[k + 1]? = some [I b] := by rw [List.getElem?_map, gb]; rfl
        have sa := sq_b (a := a) (by omega) (by omega)
        have sb := sq_b (a := b) (by omega) (by omega)
        repeat with_reducible first | refine S1 ?_ | refine S2 ?_ | refine S3 ?_ | refine S4 ?_ | refine S5 ?_ | refine S6 ?_ | refine S7 ?_ | refine S8 ?_ | refine S9 rfl ?_ | refine SA ?_ | refine SB ?_ | refine SC ?_
        refine aw_region ?_
        refine RA rfl rfl (by decide) (rd_move rfl rfl) ?_
        first | refine RA rfl rfl (by decide) (rd_index rfl Te54 rfl rfl rfl (by first | rfl | omega) (by omega)) ?_ | refine RA rfl rfl (by decide) (rd_indexq rfl Te54 rfl rfl (by first | rfl | omega) (by assumption) rfl) ?_
        refine RA rfl rfl (by decide) (rd_loadn rfl Tk64 rfl (by first | exact CB rfl | exact CQ | exact CA rfl (by first | assumption | (rw [Nat.zero_add]; assumption))) (by (try simp only [nm, putL, Nat.reduceAdd, cellsOf, cvOf]) <;> rfl) (by simp)) ?_
        refine EA rfl (ef_allocn rfl rfl (by decide) Tz64 rfl rfl (by (try simp only [nm, putL, Nat.reduceAdd, cellsOf, cvOf]) <;> rfl) (by (try simp only [nm, putL, Nat.reduceAdd, cellsOf, cvOf]) <;> rfl)) ?_
        refine RA rfl rfl (by decide) (rd_assign rfl rfl) ?_
        first | refine EA rfl (ef_storen rfl rfl rfl rfl rfl Ts64 rfl (by simp) rfl (by (try simp only [nm, putL, Nat.reduceAdd, cellsOf, cvOf]) <;> rfl) (by (try simp only [nm, putL, Nat.reduceAdd, cellsOf, cvOf]) <;> rfl)) ?_ | refine EA rfl (ef_storern rfl rfl rfl rfl (by first | assumption | (rw [Nat.zero_add]; assumption)) rfl rfl Ts64 rfl (by simp) rfl (by (try simp only [nm, putL, Nat.reduceAdd, cellsOf, cvOf]) <;> rfl) rfl) ?_
        refine al_nil ?_
        repeat with_reducible first | refine S1 ?_ | refine S2 ?_ | refine S3 ?_ | refine S4 ?_ | refine S5 ?_ | refine S6 ?_ | refine S7 ?_ | refine S8 ?_ | refine S9 rfl ?_ | refine SA ?_ | refine SB ?_ | refine SC ?_
        repeat with_reducible first | refine S1 ?_ | refine S2 ?_ | refine S3 ?_ | refine S4 ?_ | refine S5 ?_ | refine S6 ?_ | refine S7 ?_ | refine S8 ?_ | refine S9 rfl ?_ | refine SA ?_ | refine SB ?_ | refine SC ?_
        refine aw_regionT [(0, none), (1, none), (2, none), (3, none), (4, none), (5, none), (6, none), (7, none), (8, none), (9, none), (10, none), (11, none), (12, none), (13, none), (14, none), (15, none), (16, none), (17, none), (18, none), (19, none), (20, none), (22, none), (23, none), (24, none), (25, none), (26, none), (21, some [22, 23, 24, 25, 26]), (27, none)] hMixed (by kernel_rfl) ?_
        refine RT rfl rfl rfl (by decide) (rd_move rfl rfl) ?_
        refine RT rfl rfl rfl (by decide) (rd_move rfl rfl) ?_
        first | refine RT rfl rfl rfl (by decide) (rd_index rfl Te22 rfl rfl rfl (by first | rfl | omega) (by omega)) ?_ | refine RT rfl rfl rfl (by decide) (rd_indexq rfl Te22 rfl rfl (by first | rfl | omega) (by assumption) rfl) ?_
        refine RT rfl rfl rfl (by decide) (rd_loadn1 rfl Tk3 rfl (by first | exact CB rfl | exact CQ | exact CA rfl (by first | assumption | (rw [Nat.zero_add]; assumption))) (by (try simp only [nm, putL, Nat.reduceAdd, cellsOf, cvOf]) <;> rfl)) ?_
        refine RT rfl rfl rfl (by decide) (rd_move rfl rfl) ?_
        refine RT rfl rfl rfl (by decide) (rd_move rfl rfl) ?_
        first | refine RT rfl rfl rfl (by decide) (rd_index rfl Te22 rfl rfl rfl (by first | rfl | omega) (by omega)) ?_ | refine RT rfl rfl rfl (by decide) (rd_indexq rfl Te22 rfl rfl (by first | rfl | omega) (by assumption) rfl) ?_
        refine RT rfl rfl rfl (by decide) (rd_loadn1 rfl Tk3 rfl (by first | exact CB rfl | exact CQ | exact CA rfl (by first | assumption | (rw [Nat.zero_add]; assumption))) (by (try simp only [nm, putL, Nat.reduceAdd, cellsOf, cvOf]) <;> rfl)) ?_
        first | refine RT rfl rfl rfl (by decide) (rd_muln rfl rfl rfl (by omega)) ?_ | refine RT rfl rfl rfl (by decide) (rd_mul rfl rfl rfl) ?_
        refine RT rfl rfl rfl (by decide) (rd_move rfl rfl) ?_
        refine RT rfl rfl rfl (by decide) (rd_move rfl rfl) ?_
        refine RT rfl rfl rfl (by decide) (rd_addz (z := ((k + 1 : Nat) : Int)) rfl rfl rfl (by omega) (by omega)) ?_
        first | refine RT rfl rfl rfl (by decide) (rd_index rfl Te22 rfl rfl rfl (by first | rfl | omega) (by omega)) ?_ | refine RT rfl rfl rfl (by decide) (rd_indexq rfl Te22 rfl rfl (by first | rfl | omega) (by assumption) rfl) ?_
        refine RT rfl rfl rfl (by decide) (rd_loadn1 rfl Tk3 rfl (by first | exact CB rfl | exact CQ | exact CA rfl (by first | assumption | (rw [Nat.zero_add]; assumption))) (by (try simp only [nm, putL, Nat.reduceAdd, cellsOf, cvOf]) <;> rfl)) ?_
        refine RT rfl rfl rfl (by decide) (rd_move rfl rfl) ?_
        refine RT rfl rfl rfl (by decide) (rd_move rfl rfl) ?_
        refine RT rfl rfl rfl (by decide) (rd_addz (z := ((k + 1 : Nat) : Int)) rfl rfl rfl (by omega) (by omega)) ?_
        first | refine RT rfl rfl rfl (by decide) (rd_index rfl Te22 rfl rfl rfl (by first | rfl | omega) (by omega)) ?_ | refine RT rfl rfl rfl (by decide) (rd_indexq rfl Te22 rfl rfl (by first | rfl | omega) (by assumption) rfl) ?_
        refine RT rfl rfl rfl (by decide) (rd_loadn1 rfl Tk3 rfl (by first | exact CB rfl | exact CQ | exact CA rfl (by first | assumption | (rw [Nat.zero_add]; assumption))) (by (try simp only [nm, putL, Nat.reduceAdd, cellsOf, cvOf]) <;> rfl)) ?_
        first | refine RT rfl rfl rfl (by decide) (rd_muln rfl rfl rfl (by omega)) ?_ | refine RT rfl rfl rfl (by decide) (rd_mul rfl rfl rfl) ?_
        first | refine RT rfl rfl rfl (by decide) (rd_subn rfl rfl rfl (by omega)) ?_ | refine RT rfl rfl rfl (by decide) (rd_sub rfl rfl rfl) ?_
        refine RT rfl rfl rfl (by decide) (rd_move rfl rfl) ?_
        first | refine RT rfl rfl rfl (by decide) (rd_muln rfl rfl rfl (by omega)) ?_ | refine RT rfl rfl rfl (by decide) (rd_mul rfl rfl rfl) ?_
        first | refine RT rfl rfl rfl (by decide) (rd_field rfl rfl Tf64_0) ?_ | refine RT rfl rfl rfl (by decide) (rd_fieldq rfl rfl Tf64_0) ?_
        refine RT rfl rfl rfl (by decide) (rd_loadn1 rfl Tk3 rfl (by first | exact CB rfl | exact CQ | exact CA rfl (by first | assumption | (rw [Nat.zero_add]; assumption))) (by (try simp only [nm, putL, Nat.reduceAdd, cellsOf, cvOf]) <;> rfl)) ?_
        first | refine RT rfl rfl rfl (by decide) (rd_muln rfl rfl rfl (by omega)) ?_ | refine RT rfl rfl rfl (by decide) (rd_mul rfl rfl rfl) ?_
        first | refine at_ef rfl rfl (ef_call0 false (fun _ => abs1_a (a * a - b * b) (by omega)) rfl .fn rfl (by decide) Tc108 rfl (by intro _g; (repeat first | exact K0 | apply K1 rfl | apply K2 rfl rfl | apply K2 rfl (by simp) | apply K3 | exact L0 | apply L1 | exact V1 rfl | exact V2 rfl | exact V3 rfl rfl | exact V4 | exact V5 rfl | exact V3 rfl (by simp; omega) | exact V1 (by simp; omega) | exact V3 rfl (by simp) | exact V1 (by simp) | exact V6 rfl rfl (by first | rfl | simp) (by simp) rfl | apply V7 | apply V8 | apply V9); fail_if_success focus skip) (by simp)) ?_ | refine at_ef rfl rfl (ef_call0 false (fun _ => abs2_a (a * a - b * b) (by omega)) rfl .fn rfl (by decide) Tc112 rfl (by intro _g; (repeat first | exact K0 | apply K1 rfl | apply K2 rfl rfl | apply K2 rfl (by simp) | apply K3 | exact L0 | apply L1 | exact V1 rfl | exact V2 rfl | exact V3 rfl rfl | exact V4 | exact V5 rfl | exact V3 rfl (by simp; omega) | exact V1 (by simp; omega) | exact V3 rfl (by simp) | exact V1 (by simp) | exact V6 rfl rfl (by first | rfl | simp) (by simp) rfl | apply V7 | apply V8 | apply V9); fail_if_success focus skip) (by simp)) ?_
        rintro _ _ ⟨_, _, _, ⟨rfl, rfl⟩, hF, hH⟩
        (try simp only [nsl, Nat.reduceAdd, Nat.reduceLT, Nat.reduceSub] at hF); (try simp only [nsl, Nat.reduceAdd, Nat.reduceLT, Nat.reduceSub] at hH); subst hF; subst hH
        refine ⟨ag_cons (by first | exact ag_rd rfl rfl rfl (rd_move rfl rfl) rfl) (ag_cons (by first | exact ag_rd rfl rfl rfl (rd_muln rfl rfl rfl (by omega)) rfl | exact ag_rd rfl rfl rfl (rd_mul rfl rfl rfl) rfl) (ag_cons (by first | exact ag_rd rfl rfl rfl (rd_field rfl rfl Tf64_0) rfl | exact ag_rd rfl rfl rfl (rd_fieldq rfl rfl Tf64_0) rfl) (ag_cons (by first | exact ag_rd rfl rfl rfl (rd_loadn1 rfl Tk3 rfl (by first | exact CB rfl | exact CQ | exact CA rfl (by first | assumption | (rw [Nat.zero_add]; assumption))) (by (try simp only [nm, putL, Nat.reduceAdd, cellsOf, cvOf]) <;> rfl)) rfl) (ag_cons (by first | exact ag_rd rfl rfl rfl (rd_muln rfl rfl rfl (by omega)) rfl | exact ag_rd rfl rfl rfl (rd_mul rfl rfl rfl) rfl) (ag_none))))), ?_⟩
        first | refine RT rfl rfl rfl (by decide) (rd_gtr_t rfl rfl rfl (by omega)) ?_ | refine RT rfl rfl rfl (by decide) (rd_gtr_f rfl rfl rfl (by omega)) ?_ | refine RT rfl rfl rfl (by decide) (rd_gtr rfl rfl rfl) ?_
        refine at_nil ?_
        repeat with_reducible first | refine S1 ?_ | refine S2 ?_ | refine S3 ?_ | refine S4 ?_ | refine S5 ?_ | refine S6 ?_ | refine S7 ?_ | refine S8 ?_ | refine S9 rfl ?_ | refine SA ?_ | refine SB ?_ | refine SC ?_
        refine aw_if rfl (fun hgt => ?_) (fun hle => ?_)
        · repeat with_reducible first | refine S1 ?_ | refine S2 ?_ | refine S3 ?_ | refine S4 ?_ | refine S5 ?_ | refine S6 ?_ | refine S7 ?_ | refine S8 ?_ | refine S9 rfl ?_ | refine SA ?_ | refine SB ?_ | refine SC ?_
          refine aw_region ?_
          refine RA rfl rfl (by decide) (rd_assign rfl rfl) ?_
          refine al_nil ?_
          repeat with_reducible first | refine S1 ?_ | refine S2 ?_ | refine S3 ?_ | refine S4 ?_ | refine S5 ?_ | refine S6 ?_ | refine S7 ?_ | refine S8 ?_ | refine S9 rfl ?_ | refine SA ?_ | refine SB ?_ | refine SC ?_
          refine aret_1 [] _ rfl rfl rfl (by decide) (fun _ hi => absurd hi (Nat.not_lt_zero _)) (by intro _g; (repeat first | exact K0 | apply K1 rfl | apply K2 rfl rfl | apply K2 rfl (by simp) | apply K3 | exact L0 | apply L1 | exact V1 rfl | exact V2 rfl | exact V3 rfl rfl | exact V4 | exact V5 rfl | exact V3 rfl (by simp; omega) | exact V1 (by simp; omega) | exact V3 rfl (by simp) | exact V1 (by simp) | exact V6 rfl rfl (by first | rfl | simp) (by simp) rfl | apply V7 | apply V8 | apply V9); fail_if_success focus skip) ⟨false, rfl, rfl, by simp only [Bool.false_eq_true, false_iff]; intro hK; have h2 := hK.2 k (by omega); rw [ha, hb, hdl] at h2; exact absurd hgt (Int.not_lt.2 h2)⟩
        · repeat with_reducible first | refine S1 ?_ | refine S2 ?_ | refine S3 ?_ | refine S4 ?_ | refine S5 ?_ | refine S6 ?_ | refine S7 ?_ | refine S8 ?_ | refine S9 rfl ?_ | refine SA ?_ | refine SB ?_ | refine SC ?_
          repeat with_reducible first | refine S1 ?_ | refine S2 ?_ | refine S3 ?_ | refine S4 ?_ | refine S5 ?_ | refine S6 ?_ | refine S7 ?_ | refine S8 ?_ | refine S9 rfl ?_ | refine SA ?_ | refine SB ?_ | refine SC ?_
          refine aw_region ?_
          first | refine RA rfl rfl (by decide) (rd_addn rfl rfl rfl (by omega)) ?_ | refine RA rfl rfl (by decide) (rd_add rfl rfl rfl) ?_
          refine RA rfl rfl (by decide) (rd_move rfl rfl) ?_
          refine al_nil ?_
          repeat with_reducible first | refine S1 ?_ | refine S2 ?_ | refine S3 ?_ | refine S4 ?_ | refine S5 ?_ | refine S6 ?_ | refine S7 ?_ | refine S8 ?_ | refine S9 rfl ?_ | refine SA ?_ | refine SB ?_ | refine SC ?_
          refine wk_of [] (fun _ => [(2, .c (ints_r vq q)), (3, .c (I ch)), (67, .c (legs_r v l)), (68, .c (I (l.map Leg.row).length)), (69, .c (I (k + 1 : Nat)))]) (fun _ => _) (by decide) (by rw [hE]; first | exact (fun _ hi => absurd hi (Nat.not_lt_zero _)) | exact (fun i hi => by (have hi : i < 1 := hi); (have h0 : i = 0 := (by omega)); (subst h0); rfl)) (by intro _g; (repeat first | exact W0 | apply W1 rfl | exact L0 | apply L1 | exact V1 rfl | exact V2 rfl | exact V3 rfl rfl | exact V4 | exact V5 rfl | exact V3 rfl (by simp; omega) | exact V1 (by simp; omega) | exact V3 rfl (by simp) | exact V1 (by simp) | exact V6 rfl rfl (by first | rfl | simp) (by simp) rfl | apply V7 | apply V8 | apply V9 | refine V1 ?_ | refine V3 rfl ?_); fail_if_success focus skip) (by intro _g; (repeat first | exact K0 | apply K1 rfl | apply K2 rfl rfl | apply K2 rfl (by simp) | apply K3 | exact L0 | apply L1 | exact V1 rfl | exact V2 rfl | exact V3 rfl rfl | exact V4 | exact V5 rfl | exact V3 rfl (by simp; omega) | exact V1 (by simp; omega) | exact V3 rfl (by simp) | exact V1 (by simp) | exact V6 rfl rfl (by first | rfl | simp) (by simp) rfl | apply V7 | apply V8 | apply V9); fail_if_success focus skip) (fun _ => ?_)
          refine ⟨m - 1, by omega, k + 1, by omega, fun i hi => ?_, rfl, rfl⟩
          by_cases hik : i = k
          · subst hik; rw [ha, hb, hdl]; exact Int.not_lt.1 hle
          · exact hsec i (by omega)
      obtain rfl : k = l.length := by omega
      repeat with_reducible first | refine S1 ?_ | refine S2 ?_ | refine S3 ?_ | refine S4 ?_ | refine S5 ?_ | refine S6 ?_ | refine S7 ?_ | refine S8 ?_ | refine S9 rfl ?_ | refine SA ?_ | refine SB ?_ | refine SC ?_
      refine aw_region ?_
      refine RA rfl rfl (by decide) (rd_assign rfl rfl) ?_
      refine al_nil ?_
      repeat with_reducible first | refine S1 ?_ | refine S2 ?_ | refine S3 ?_ | refine S4 ?_ | refine S5 ?_ | refine S6 ?_ | refine S7 ?_ | refine S8 ?_ | refine S9 rfl ?_ | refine SA ?_ | refine SB ?_ | refine SC ?_
      exact aret_1 [] _ rfl rfl rfl (by decide) (fun _ hi => absurd hi (Nat.not_lt_zero _)) (by intro _g; (repeat first | exact K0 | apply K1 rfl | apply K2 rfl rfl | apply K2 rfl (by simp) | apply K3 | exact L0 | apply L1 | exact V1 rfl | exact V2 rfl | exact V3 rfl rfl | exact V4 | exact V5 rfl | exact V3 rfl (by simp; omega) | exact V1 (by simp; omega) | exact V3 rfl (by simp) | exact V1 (by simp) | exact V6 rfl rfl (by first | rfl | simp) (by simp) rfl | apply V7 | apply V8 | apply V9); fail_if_success focus skip) ⟨true, rfl, rfl, by simp only [true_iff]; exact ⟨hfst, hsec⟩⟩
    · repeat with_reducible first | refine S1 ?_ | refine S2 ?_ | refine S3 ?_ | refine S4 ?_ | refine S5 ?_ | refine S6 ?_ | refine S7 ?_ | refine S8 ?_ | refine S9 rfl ?_ | refine SA ?_ | refine SB ?_ | refine SC ?_
      refine aw_region ?_
      refine RA rfl rfl (by decide) (rd_move rfl rfl) ?_
      first | refine RA rfl rfl (by decide) (rd_index rfl Te22 rfl rfl rfl (by first | rfl | omega) (by omega)) ?_ | refine RA rfl rfl (by decide) (rd_indexq rfl Te22 rfl rfl (by first | rfl | omega) (by assumption) rfl) ?_
      refine RA rfl rfl (by decide) (rd_loadn1 rfl Tk3 rfl (by first | exact CB rfl | exact CQ | exact CA rfl (by first | assumption | (rw [Nat.zero_add]; assumption))) (by (try simp only [nm, putL, Nat.reduceAdd, cellsOf, cvOf]) <;> rfl)) ?_
      first | refine RA rfl rfl (by decide) (rd_neq_t rfl rfl rfl (by omega)) ?_ | refine RA rfl rfl (by decide) (rd_neq_f rfl rfl rfl (by omega)) ?_ | refine RA rfl rfl (by decide) (rd_neq rfl rfl rfl) ?_
      refine RA rfl rfl (by decide) (rd_move rfl rfl) ?_
      first | (refine G1 rfl ?_; (refine RA rfl rfl (by decide) (rd_move rfl rfl) ?_)) | refine G2 rfl rfl (by decide) ?_
      first | (refine G1 rfl ?_; (refine RA rfl rfl (by decide) (rd_move rfl rfl) ?_)) | refine G2 rfl rfl (by decide) ?_
      first | (refine G1 rfl ?_; (first | refine RA rfl rfl (by decide) (rd_index rfl Te22 rfl rfl rfl (by first | rfl | omega) (by omega)) ?_ | refine RA rfl rfl (by decide) (rd_indexq rfl Te22 rfl rfl (by first | rfl | omega) (by assumption) rfl) ?_)) | refine G2 rfl rfl (by decide) ?_
      first | (refine G1 rfl ?_; (refine RA rfl rfl (by decide) (rd_loadn1 rfl Tk3 rfl (by first | exact CB rfl | exact CQ | exact CA rfl (by first | assumption | (rw [Nat.zero_add]; assumption))) (by (try simp only [nm, putL, Nat.reduceAdd, cellsOf, cvOf]) <;> rfl)) ?_)) | refine G2 rfl rfl (by decide) ?_
      first | (refine G1 rfl ?_; (first | refine RA rfl rfl (by decide) (rd_neq_t rfl rfl rfl (by omega)) ?_ | refine RA rfl rfl (by decide) (rd_neq_f rfl rfl rfl (by omega)) ?_ | refine RA rfl rfl (by decide) (rd_neq rfl rfl rfl) ?_)) | refine G2 rfl rfl (by decide) ?_
      first | refine RA rfl rfl (by decide) (rd_pick_t rfl rfl rfl) ?_ | refine RA rfl rfl (by decide) (rd_pick_f rfl rfl rfl) ?_
      refine al_nil ?_
      repeat with_reducible first | refine S1 ?_ | refine S2 ?_ | refine S3 ?_ | refine S4 ?_ | refine S5 ?_ | refine S6 ?_ | refine S7 ?_ | refine S8 ?_ | refine S9 rfl ?_ | refine SA ?_ | refine SB ?_ | refine SC ?_
      refine aw_cond_t rfl ?_
      repeat with_reducible first | refine S1 ?_ | refine S2 ?_ | refine S3 ?_ | refine S4 ?_ | refine S5 ?_ | refine S6 ?_ | refine S7 ?_ | refine S8 ?_ | refine S9 rfl ?_ | refine SA ?_ | refine SB ?_ | refine SC ?_
      refine aw_region ?_
      refine RA rfl rfl (by decide) (rd_assign rfl rfl) ?_
      refine al_nil ?_
      repeat with_reducible first | refine S1 ?_ | refine S2 ?_ | refine S3 ?_ | refine S4 ?_ | refine S5 ?_ | refine S6 ?_ | refine S7 ?_ | refine S8 ?_ | refine S9 rfl ?_ | refine SA ?_ | refine SB ?_ | refine SC ?_
      exact aret_1 [] _ rfl rfl rfl (by decide) (fun _ hi => absurd hi (Nat.not_lt_zero _)) (by intro _g; (repeat first | exact K0 | apply K1 rfl | apply K2 rfl rfl | apply K2 rfl (by simp) | apply K3 | exact L0 | apply L1 | exact V1 rfl | exact V2 rfl | exact V3 rfl rfl | exact V4 | exact V5 rfl | exact V3 rfl (by simp; omega) | exact V1 (by simp; omega) | exact V3 rfl (by simp) | exact V1 (by simp) | exact V6 rfl rfl (by first | rfl | simp) (by simp) rfl | apply V7 | apply V8 | apply V9); fail_if_success focus skip) ⟨false, rfl, rfl, by simp only [Bool.false_eq_true, false_iff]; intro hK; have h2 := hK.1 l.length (by omega); rw [cn] at h2; omega⟩
  · repeat with_reducible first | refine S1 ?_ | refine S2 ?_ | refine S3 ?_ | refine S4 ?_ | refine S5 ?_ | refine S6 ?_ | refine S7 ?_ | refine S8 ?_ | refine S9 rfl ?_ | refine SA ?_ | refine SB ?_ | refine SC ?_
    refine aw_region ?_
    refine RA rfl rfl (by decide) (rd_move rfl rfl) ?_
    first | refine RA rfl rfl (by decide) (rd_index rfl Te22 rfl rfl rfl (by first | rfl | omega) (by omega)) ?_ | refine RA rfl rfl (by decide) (rd_indexq rfl Te22 rfl rfl (by first | rfl | omega) (by assumption) rfl) ?_
    refine RA rfl rfl (by decide) (rd_loadn1 rfl Tk3 rfl (by first | exact CB rfl | exact CQ | exact CA rfl (by first | assumption | (rw [Nat.zero_add]; assumption))) (by (try simp only [nm, putL, Nat.reduceAdd, cellsOf, cvOf]) <;> rfl)) ?_
    first | refine RA rfl rfl (by decide) (rd_neq_t rfl rfl rfl (by omega)) ?_ | refine RA rfl rfl (by decide) (rd_neq_f rfl rfl rfl (by omega)) ?_ | refine RA rfl rfl (by decide) (rd_neq rfl rfl rfl) ?_
    refine RA rfl rfl (by decide) (rd_move rfl rfl) ?_
    first | (refine G1 rfl ?_; (refine RA rfl rfl (by decide) (rd_move rfl rfl) ?_)) | refine G2 rfl rfl (by decide) ?_
    first | (refine G1 rfl ?_; (refine RA rfl rfl (by decide) (rd_move rfl rfl) ?_)) | refine G2 rfl rfl (by decide) ?_
    first | (refine G1 rfl ?_; (first | refine RA rfl rfl (by decide) (rd_index rfl Te22 rfl rfl rfl (by first | rfl | omega) (by omega)) ?_ | refine RA rfl rfl (by decide) (rd_indexq rfl Te22 rfl rfl (by first | rfl | omega) (by assumption) rfl) ?_)) | refine G2 rfl rfl (by decide) ?_
    first | (refine G1 rfl ?_; (refine RA rfl rfl (by decide) (rd_loadn1 rfl Tk3 rfl (by first | exact CB rfl | exact CQ | exact CA rfl (by first | assumption | (rw [Nat.zero_add]; assumption))) (by (try simp only [nm, putL, Nat.reduceAdd, cellsOf, cvOf]) <;> rfl)) ?_)) | refine G2 rfl rfl (by decide) ?_
    first | (refine G1 rfl ?_; (first | refine RA rfl rfl (by decide) (rd_neq_t rfl rfl rfl (by omega)) ?_ | refine RA rfl rfl (by decide) (rd_neq_f rfl rfl rfl (by omega)) ?_ | refine RA rfl rfl (by decide) (rd_neq rfl rfl rfl) ?_)) | refine G2 rfl rfl (by decide) ?_
    first | refine RA rfl rfl (by decide) (rd_pick_t rfl rfl rfl) ?_ | refine RA rfl rfl (by decide) (rd_pick_f rfl rfl rfl) ?_
    refine al_nil ?_
    repeat with_reducible first | refine S1 ?_ | refine S2 ?_ | refine S3 ?_ | refine S4 ?_ | refine S5 ?_ | refine S6 ?_ | refine S7 ?_ | refine S8 ?_ | refine S9 rfl ?_ | refine SA ?_ | refine SB ?_ | refine SC ?_
    refine aw_cond_t rfl ?_
    repeat with_reducible first | refine S1 ?_ | refine S2 ?_ | refine S3 ?_ | refine S4 ?_ | refine S5 ?_ | refine S6 ?_ | refine S7 ?_ | refine S8 ?_ | refine S9 rfl ?_ | refine SA ?_ | refine SB ?_ | refine SC ?_
    refine aw_region ?_
    refine RA rfl rfl (by decide) (rd_assign rfl rfl) ?_
    refine al_nil ?_
    repeat with_reducible first | refine S1 ?_ | refine S2 ?_ | refine S3 ?_ | refine S4 ?_ | refine S5 ?_ | refine S6 ?_ | refine S7 ?_ | refine S8 ?_ | refine S9 rfl ?_ | refine SA ?_ | refine SB ?_ | refine SC ?_
    exact aret_1 [] _ rfl rfl rfl (by decide) (fun _ hi => absurd hi (Nat.not_lt_zero _)) (by intro _g; (repeat first | exact K0 | apply K1 rfl | apply K2 rfl rfl | apply K2 rfl (by simp) | apply K3 | exact L0 | apply L1 | exact V1 rfl | exact V2 rfl | exact V3 rfl rfl | exact V4 | exact V5 rfl | exact V3 rfl (by simp; omega) | exact V1 (by simp; omega) | exact V3 rfl (by simp) | exact V1 (by simp) | exact V6 rfl rfl (by first | rfl | simp) (by simp) rfl | apply V7 | apply V8 | apply V9); fail_if_success focus skip) ⟨false, rfl, rfl, by simp only [Bool.false_eq_true, false_iff]; intro hK; have h2 := hK.1 0 (by omega); rw [c0] at h2; omega⟩
theorem keptof_a (l : List Leg) (cs q : List Int) (ch : Int) (v w vq : Value) (hr : Right l cs) (hc : 1 ≤ ch ∧ ch ≤ 10000000) (hq : q.length = l.length + 1) : ACalls Try.prog 47 [.c (legs_r v l), .c (ints_r w cs), .c (ints_r vq q), .c (I ch)] [] fun u H => ∃ b : Bool, u = .c (B b) ∧ H = [] ∧ (b = true ↔ KeptP l cs q ch) := by
  have e1 : (l.map Leg.row).length = l.length := by simp
  have e2 : (cs.map fun z => [I z]).length = cs.length := by simp
  have e3 : (q.map fun z => [I z]).length = q.length := by simp
  have n1 := hr.ne
  have n2 := hr.le
  have n3 := hr.len
  have c0 := capL_zero l cs
  have cn := capL_last l cs
  refine acalls_of (N := 102) Try.func47 rfl rfl (by simp) fun E hE => ?_
  repeat with_reducible first | refine S1 ?_ | refine S2 ?_ | refine S3 ?_ | refine S4 ?_ | refine S5 ?_ | refine S6 ?_ | refine S7 ?_ | refine S8 ?_ | refine S9 rfl ?_ | refine SA ?_ | refine SB ?_ | refine SC ?_
  refine aw_region ?_
  refine RA rfl rfl (by decide) (rd_assign rfl rfl) ?_
  refine al_nil ?_
  repeat with_reducible first | refine S1 ?_ | refine S2 ?_ | refine S3 ?_ | refine S4 ?_ | refine S5 ?_ | refine S6 ?_ | refine S7 ?_ | refine S8 ?_ | refine S9 rfl ?_ | refine SA ?_ | refine SB ?_ | refine SC ?_
  refine aw_region ?_
  refine RA rfl rfl (by decide) (rd_move rfl rfl) ?_
  first | refine RA rfl rfl (by decide) (rd_len rfl Te22 rfl) ?_ | refine RA rfl rfl (by decide) (rd_lenr rfl Te22 rfl) ?_
  refine RA rfl rfl (by decide) (rd_move rfl rfl) ?_
  refine al_nil ?_
  repeat with_reducible first | refine S1 ?_ | refine S2 ?_ | refine S3 ?_ | refine S4 ?_ | refine S5 ?_ | refine S6 ?_ | refine S7 ?_ | refine S8 ?_ | refine S9 rfl ?_ | refine SA ?_ | refine SB ?_ | refine SC ?_
  refine aw_loopw (fun m F H => ∃ (k : Nat), m + k = l.length + 1 ∧ (∀ i, i < k → 0 ≤ q.getD i 0 ∧ q.getD i 0 ≤ capL l cs i) ∧ F = [(0, .c (legs_r v l)), (1, .c (ints_r w cs)), (2, .c (ints_r vq q)), (3, .c (I ch)), (13, .c (ints_r vq q)), (14, .c (I (q.map fun z => [I z]).length)), (15, .c (I k))] ∧ H = []) ?_ ?_
  · refine wk_of [] (fun _ => [(0, .c (legs_r v l)), (1, .c (ints_r w cs)), (2, .c (ints_r vq q)), (3, .c (I ch)), (13, .c (ints_r vq q)), (14, .c (I (q.map fun z => [I z]).length)), (15, .c (I (0 : Nat)))]) (fun _ => _) (by decide) (by rw [hE]; first | exact (fun _ hi => absurd hi (Nat.not_lt_zero _)) | exact (fun i hi => by (have hi : i < 1 := hi); (have h0 : i = 0 := (by omega)); (subst h0); rfl)) (by intro _g; (repeat first | exact W0 | apply W1 rfl | exact L0 | apply L1 | exact V1 rfl | exact V2 rfl | exact V3 rfl rfl | exact V4 | exact V5 rfl | exact V3 rfl (by simp; omega) | exact V1 (by simp; omega) | exact V3 rfl (by simp) | exact V1 (by simp) | exact V6 rfl rfl (by first | rfl | simp) (by simp) rfl | apply V7 | apply V8 | apply V9 | refine V1 ?_ | refine V3 rfl ?_); fail_if_success focus skip) (by intro _g; (repeat first | exact K0 | apply K1 rfl | apply K2 rfl rfl | apply K2 rfl (by simp) | apply K3 | exact L0 | apply L1 | exact V1 rfl | exact V2 rfl | exact V3 rfl rfl | exact V4 | exact V5 rfl | exact V3 rfl (by simp; omega) | exact V1 (by simp; omega) | exact V3 rfl (by simp) | exact V1 (by simp) | exact V6 rfl rfl (by first | rfl | simp) (by simp) rfl | apply V7 | apply V8 | apply V9); fail_if_success focus skip) (fun _ => ?_)
    exact ⟨l.length + 1, 0, by omega, fun i hi => absurd hi (Nat.not_lt_zero _), rfl, rfl⟩
  rintro m F H ⟨k, hk, hfst, rfl, rfl⟩
  repeat with_reducible first | refine S1 ?_ | refine S2 ?_ | refine S3 ?_ | refine S4 ?_ | refine S5 ?_ | refine S6 ?_ | refine S7 ?_ | refine S8 ?_ | refine S9 rfl ?_ | refine SA ?_ | refine SB ?_ | refine SC ?_
  refine aw_region ?_
  first | refine RA rfl rfl (by decide) (rd_lss_t rfl rfl rfl (by omega)) ?_ | refine RA rfl rfl (by decide) (rd_lss_f rfl rfl rfl (by omega)) ?_ | refine RA rfl rfl (by decide) (rd_lss rfl rfl rfl) ?_
  refine al_nil ?_
  repeat with_reducible first | refine S1 ?_ | refine S2 ?_ | refine S3 ?_ | refine S4 ?_ | refine S5 ?_ | refine S6 ?_ | refine S7 ?_ | refine S8 ?_ | refine S9 rfl ?_ | refine SA ?_ | refine SB ?_ | refine SC ?_
  refine aw_if rfl (fun hlt => ?_) (fun hge => ?_)
  · have ga := get_getD (q := q) (k := k) (by omega)
    have r4 : (q.map fun z => [I z])[k]? = some [I (q.getD k 0)] := by rw [List.getElem?_map, ga]; rfl
    repeat with_reducible first | refine S1 ?_ | refine S2 ?_ | refine S3 ?_ | refine S4 ?_ | refine S5 ?_ | refine S6 ?_ | refine S7 ?_ | refine S8 ?_ | refine S9 rfl ?_ | refine SA ?_ | refine SB ?_ | refine SC ?_
    refine aw_region ?_
    refine RA rfl rfl (by decide) (rd_move rfl rfl) ?_
    first | refine RA rfl rfl (by decide) (rd_index rfl Te22 rfl rfl rfl (by first | rfl | omega) (by omega)) ?_ | refine RA rfl rfl (by decide) (rd_indexq rfl Te22 rfl rfl (by first | rfl | omega) (by assumption) rfl) ?_
    refine RA rfl rfl (by decide) (rd_loadn1 rfl Tk3 rfl (by first | exact CB rfl | exact CQ | exact CA rfl (by first | assumption | (rw [Nat.zero_add]; assumption))) (by (try simp only [nm, putL, Nat.reduceAdd, cellsOf, cvOf]) <;> rfl)) ?_
    refine RA rfl rfl (by decide) (rd_assign rfl rfl) ?_
    refine RA rfl rfl (by decide) (rd_assign rfl rfl) ?_
    refine al_nil ?_
    repeat with_reducible first | refine S1 ?_ | refine S2 ?_ | refine S3 ?_ | refine S4 ?_ | refine S5 ?_ | refine S6 ?_ | refine S7 ?_ | refine S8 ?_ | refine S9 rfl ?_ | refine SA ?_ | refine SB ?_ | refine SC ?_
    by_cases ha : q.getD k 0 < 0
    · repeat with_reducible first | refine S1 ?_ | refine S2 ?_ | refine S3 ?_ | refine S4 ?_ | refine S5 ?_ | refine S6 ?_ | refine S7 ?_ | refine S8 ?_ | refine S9 rfl ?_ | refine SA ?_ | refine SB ?_ | refine SC ?_
      refine aw_region ?_
      refine RA rfl rfl (by decide) (rd_move rfl rfl) ?_
      first | refine RA rfl rfl (by decide) (rd_lss_t rfl rfl rfl (by omega)) ?_ | refine RA rfl rfl (by decide) (rd_lss_f rfl rfl rfl (by omega)) ?_ | refine RA rfl rfl (by decide) (rd_lss rfl rfl rfl) ?_
      refine RA rfl rfl (by decide) (rd_move rfl rfl) ?_
      first | (refine G1 rfl ?_; (refine RA rfl rfl (by decide) (rd_move rfl rfl) ?_)) | refine G2 rfl rfl (by decide) ?_
      first | (refine G1 rfl ?_; (first | refine RA rfl rfl (by decide) (rd_eql_t rfl rfl rfl (by omega)) ?_ | refine RA rfl rfl (by decide) (rd_eql_f rfl rfl rfl (by omega)) ?_ | refine RA rfl rfl (by decide) (rd_eql rfl rfl rfl) ?_)) | refine G2 rfl rfl (by decide) ?_
      first | (refine G1 rfl ?_; (refine RA rfl rfl (by decide) (rd_move rfl rfl) ?_)) | refine G2 rfl rfl (by decide) ?_
      first | (refine G1 rfl ?_; (refine RA rfl rfl (by decide) (rd_move rfl rfl) ?_)) | refine G2 rfl rfl (by decide) ?_
      first | (refine G1 rfl ?_; (refine RA rfl rfl (by decide) (rd_move rfl rfl) ?_)) | refine G2 rfl rfl (by decide) ?_
      first | (refine G1 rfl ?_; (first | refine RA rfl rfl (by decide) (rd_len rfl Te54 rfl) ?_ | refine RA rfl rfl (by decide) (rd_lenr rfl Te54 rfl) ?_)) | refine G2 rfl rfl (by decide) ?_
      first | (refine G1 rfl ?_; (first | refine RA rfl rfl (by decide) (rd_eql_t rfl rfl rfl (by omega)) ?_ | refine RA rfl rfl (by decide) (rd_eql_f rfl rfl rfl (by omega)) ?_ | refine RA rfl rfl (by decide) (rd_eql rfl rfl rfl) ?_)) | refine G2 rfl rfl (by decide) ?_
      first | (refine G1 rfl ?_; (first | refine RA rfl rfl (by decide) (rd_pick_t rfl rfl rfl) ?_ | refine RA rfl rfl (by decide) (rd_pick_f rfl rfl rfl) ?_)) | refine G2 rfl rfl (by decide) ?_
      first | (refine G1 rfl ?_; (refine RA rfl rfl (by decide) (rd_move rfl rfl) ?_)) | refine G2 rfl rfl (by decide) ?_
      first | (refine G1 rfl ?_; (refine RA rfl rfl (by decide) (rd_move rfl rfl) ?_)) | refine G2 rfl rfl (by decide) ?_
      first | (refine G1 rfl ?_; (first | refine RA rfl rfl (by decide) (rd_neq_t rfl rfl rfl (by omega)) ?_ | refine RA rfl rfl (by decide) (rd_neq_f rfl rfl rfl (by omega)) ?_ | refine RA rfl rfl (by decide) (rd_neq rfl rfl rfl) ?_)) | refine G2 rfl rfl (by decide) ?_
      first | (refine G1 rfl ?_; (first | refine RA rfl rfl (by decide) (rd_pick_t rfl rfl rfl) ?_ | refine RA rfl rfl (by decide) (rd_pick_f rfl rfl rfl) ?_)) | refine G2 rfl rfl (by decide) ?_
      first | refine RA rfl rfl (by decide) (rd_pick_t rfl rfl rfl) ?_ | refine RA rfl rfl (by decide) (rd_pick_f rfl rfl rfl) ?_
      refine al_nil ?_
      repeat with_reducible first | refine S1 ?_ | refine S2 ?_ | refine S3 ?_ | refine S4 ?_ | refine S5 ?_ | refine S6 ?_ | refine S7 ?_ | refine S8 ?_ | refine S9 rfl ?_ | refine SA ?_ | refine SB ?_ | refine SC ?_
      refine aw_cond_t rfl ?_
      repeat with_reducible first | refine S1 ?_ | refine S2 ?_ | refine S3 ?_ | refine S4 ?_ | refine S5 ?_ | refine S6 ?_ | refine S7 ?_ | refine S8 ?_ | refine S9 rfl ?_ | refine SA ?_ | refine SB ?_ | refine SC ?_
      refine aw_region ?_
      refine RA rfl rfl (by decide) (rd_assign rfl rfl) ?_
      refine al_nil ?_
      repeat with_reducible first | refine S1 ?_ | refine S2 ?_ | refine S3 ?_ | refine S4 ?_ | refine S5 ?_ | refine S6 ?_ | refine S7 ?_ | refine S8 ?_ | refine S9 rfl ?_ | refine SA ?_ | refine SB ?_ | refine SC ?_
      exact aret_1 [] _ rfl rfl rfl (by decide) (fun _ hi => absurd hi (Nat.not_lt_zero _)) (by intro _g; (repeat first | exact K0 | apply K1 rfl | apply K2 rfl rfl | apply K2 rfl (by simp) | apply K3 | exact L0 | apply L1 | exact V1 rfl | exact V2 rfl | exact V3 rfl rfl | exact V4 | exact V5 rfl | exact V3 rfl (by simp; omega) | exact V1 (by simp; omega) | exact V3 rfl (by simp) | exact V1 (by simp) | exact V6 rfl rfl (by first | rfl | simp) (by simp) rfl | apply V7 | apply V8 | apply V9); fail_if_success focus skip) ⟨false, rfl, rfl, by simp only [Bool.false_eq_true, false_iff]; intro hK; have h2 := hK.1 k (by omega); omega⟩
    by_cases hk0 : k = 0
    · by_cases hz : q.getD k 0 = 0
      · repeat with_reducible first | refine S1 ?_ | refine S2 ?_ | refine S3 ?_ | refine S4 ?_ | refine S5 ?_ | refine S6 ?_ | refine S7 ?_ | refine S8 ?_ | refine S9 rfl ?_ | refine SA ?_ | refine SB ?_ | refine SC ?_
        refine aw_region ?_
        refine RA rfl rfl (by decide) (rd_move rfl rfl) ?_
        first | refine RA rfl rfl (by decide) (rd_lss_t rfl rfl rfl (by omega)) ?_ | refine RA rfl rfl (by decide) (rd_lss_f rfl rfl rfl (by omega)) ?_ | refine RA rfl rfl (by decide) (rd_lss rfl rfl rfl) ?_
        refine RA rfl rfl (by decide) (rd_move rfl rfl) ?_
        first | (refine G1 rfl ?_; (refine RA rfl rfl (by decide) (rd_move rfl rfl) ?_)) | refine G2 rfl rfl (by decide) ?_
        first | (refine G1 rfl ?_; (first | refine RA rfl rfl (by decide) (rd_eql_t rfl rfl rfl (by omega)) ?_ | refine RA rfl rfl (by decide) (rd_eql_f rfl rfl rfl (by omega)) ?_ | refine RA rfl rfl (by decide) (rd_eql rfl rfl rfl) ?_)) | refine G2 rfl rfl (by decide) ?_
        first | (refine G1 rfl ?_; (refine RA rfl rfl (by decide) (rd_move rfl rfl) ?_)) | refine G2 rfl rfl (by decide) ?_
        first | (refine G1 rfl ?_; (refine RA rfl rfl (by decide) (rd_move rfl rfl) ?_)) | refine G2 rfl rfl (by decide) ?_
        first | (refine G1 rfl ?_; (refine RA rfl rfl (by decide) (rd_move rfl rfl) ?_)) | refine G2 rfl rfl (by decide) ?_
        first | (refine G1 rfl ?_; (first | refine RA rfl rfl (by decide) (rd_len rfl Te54 rfl) ?_ | refine RA rfl rfl (by decide) (rd_lenr rfl Te54 rfl) ?_)) | refine G2 rfl rfl (by decide) ?_
        first | (refine G1 rfl ?_; (first | refine RA rfl rfl (by decide) (rd_eql_t rfl rfl rfl (by omega)) ?_ | refine RA rfl rfl (by decide) (rd_eql_f rfl rfl rfl (by omega)) ?_ | refine RA rfl rfl (by decide) (rd_eql rfl rfl rfl) ?_)) | refine G2 rfl rfl (by decide) ?_
        first | (refine G1 rfl ?_; (first | refine RA rfl rfl (by decide) (rd_pick_t rfl rfl rfl) ?_ | refine RA rfl rfl (by decide) (rd_pick_f rfl rfl rfl) ?_)) | refine G2 rfl rfl (by decide) ?_
        first | (refine G1 rfl ?_; (refine RA rfl rfl (by decide) (rd_move rfl rfl) ?_)) | refine G2 rfl rfl (by decide) ?_
        first | (refine G1 rfl ?_; (refine RA rfl rfl (by decide) (rd_move rfl rfl) ?_)) | refine G2 rfl rfl (by decide) ?_
        first | (refine G1 rfl ?_; (first | refine RA rfl rfl (by decide) (rd_neq_t rfl rfl rfl (by omega)) ?_ | refine RA rfl rfl (by decide) (rd_neq_f rfl rfl rfl (by omega)) ?_ | refine RA rfl rfl (by decide) (rd_neq rfl rfl rfl) ?_)) | refine G2 rfl rfl (by decide) ?_
        first | (refine G1 rfl ?_; (first | refine RA rfl rfl (by decide) (rd_pick_t rfl rfl rfl) ?_ | refine RA rfl rfl (by decide) (rd_pick_f rfl rfl rfl) ?_)) | refine G2 rfl rfl (by decide) ?_
        first | refine RA rfl rfl (by decide) (rd_pick_t rfl rfl rfl) ?_ | refine RA rfl rfl (by decide) (rd_pick_f rfl rfl rfl) ?_
        refine al_nil ?_
        repeat with_reducible first | refine S1 ?_ | refine S2 ?_ | refine S3 ?_ | refine S4 ?_ | refine S5 ?_ | refine S6 ?_ | refine S7 ?_ | refine S8 ?_ | refine S9 rfl ?_ | refine SA ?_ | refine SB ?_ | refine SC ?_
        refine aw_cond_f rfl ?_
        repeat with_reducible first | refine S1 ?_ | refine S2 ?_ | refine S3 ?_ | refine S4 ?_ | refine S5 ?_ | refine S6 ?_ | refine S7 ?_ | refine S8 ?_ | refine S9 rfl ?_ | refine SA ?_ | refine SB ?_ | refine SC ?_
        repeat with_reducible first | refine S1 ?_ | refine S2 ?_ | refine S3 ?_ | refine S4 ?_ | refine S5 ?_ | refine S6 ?_ | refine S7 ?_ | refine S8 ?_ | refine S9 rfl ?_ | refine SA ?_ | refine SB ?_ | refine SC ?_
        refine aw_regionT [(0, none), (1, none), (2, none), (3, none), (4, none), (5, none), (6, none), (7, none), (8, none), (9, none), (10, none), (11, none), (12, none), (13, none), (14, none), (15, none), (16, none), (17, none), (18, none), (19, none), (20, none), (21, none), (22, none), (23, none), (24, none), (25, none), (26, none), (27, none), (28, none)] hMixed (by kernel_rfl) ?_
        refine RT rfl rfl rfl (by decide) (rd_move rfl rfl) ?_
        first | refine RT rfl rfl rfl (by decide) (rd_gtr_t rfl rfl rfl (by omega)) ?_ | refine RT rfl rfl rfl (by decide) (rd_gtr_f rfl rfl rfl (by omega)) ?_ | refine RT rfl rfl rfl (by decide) (rd_gtr rfl rfl rfl) ?_
        refine RT rfl rfl rfl (by decide) (rd_move rfl rfl) ?_
        first | refine at_gon rfl rfl rfl rfl rfl rfl (by decide) (rd_move rfl rfl) ?_ | refine at_skip rfl rfl rfl rfl rfl rfl rfl (by decide) ?_ | refine at_skipu rfl rfl rfl rfl rfl rfl (by decide) ?_
        first | refine at_gon rfl rfl rfl rfl rfl rfl (by decide) (rd_move rfl rfl) ?_ | refine at_skip rfl rfl rfl rfl rfl rfl rfl (by decide) ?_ | refine at_skipu rfl rfl rfl rfl rfl rfl (by decide) ?_
        first | refine at_gon rfl rfl rfl rfl rfl rfl (by decide) (rd_len rfl Te54 rfl) ?_ | refine at_gon rfl rfl rfl rfl rfl rfl (by decide) (rd_lenr rfl Te54 rfl) ?_ | refine at_skip rfl rfl rfl rfl rfl rfl rfl (by decide) ?_ | refine at_skipu rfl rfl rfl rfl rfl rfl (by decide) ?_
        first | refine at_gon rfl rfl rfl rfl rfl rfl (by decide) (rd_lss_t rfl rfl rfl (by omega)) ?_ | refine at_gon rfl rfl rfl rfl rfl rfl (by decide) (rd_lss_f rfl rfl rfl (by omega)) ?_ | refine at_gon rfl rfl rfl rfl rfl rfl (by decide) (rd_lss rfl rfl rfl) ?_ | refine at_skip rfl rfl rfl rfl rfl rfl rfl (by decide) ?_ | refine at_skipu rfl rfl rfl rfl rfl rfl (by decide) ?_
        first | refine RT rfl rfl rfl (by decide) (rd_pick_t rfl rfl rfl) ?_ | refine RT rfl rfl rfl (by decide) (rd_pick_f rfl rfl rfl) ?_
        refine RT rfl rfl rfl (by decide) (rd_move rfl rfl) ?_
        first | refine at_gon rfl rfl rfl rfl rfl rfl (by decide) (rd_move rfl rfl) ?_ | refine at_skip rfl rfl rfl rfl rfl rfl rfl (by decide) ?_ | refine at_skipu rfl rfl rfl rfl rfl rfl (by decide) ?_
        first | refine at_gon rfl rfl rfl rfl rfl rfl (by decide) (rd_move rfl rfl) ?_ | refine at_skip rfl rfl rfl rfl rfl rfl rfl (by decide) ?_ | refine at_skipu rfl rfl rfl rfl rfl rfl (by decide) ?_
        first | refine at_gon rfl rfl rfl rfl rfl rfl (by decide) (rd_move rfl rfl) ?_ | refine at_skip rfl rfl rfl rfl rfl rfl rfl (by decide) ?_ | refine at_skipu rfl rfl rfl rfl rfl rfl (by decide) ?_
        first | refine at_gon rfl rfl rfl rfl rfl rfl (by decide) (rd_subz (z := (j : Int)) rfl rfl rfl (by omega) (by omega)) ?_ | refine at_skip rfl rfl rfl rfl rfl rfl rfl (by decide) ?_ | refine at_skipu rfl rfl rfl rfl rfl rfl (by decide) ?_
        first | refine at_gon rfl rfl rfl rfl rfl rfl (by decide) (rd_index rfl Te22 rfl rfl rfl (by first | rfl | omega) (by omega)) ?_ | refine at_gon rfl rfl rfl rfl rfl rfl (by decide) (rd_indexq rfl Te22 rfl rfl (by first | rfl | omega) (by assumption) rfl) ?_ | refine at_skip rfl rfl rfl rfl rfl rfl rfl (by decide) ?_ | refine at_skipu rfl rfl rfl rfl rfl rfl (by decide) ?_
        first | refine at_gon rfl rfl rfl rfl rfl rfl (by decide) (rd_loadn1 rfl Tk3 rfl (by first | exact CB rfl | exact CQ | exact CA rfl (by first | assumption | (rw [Nat.zero_add]; assumption))) (by (try simp only [nm, putL, Nat.reduceAdd, cellsOf, cvOf]) <;> rfl)) ?_ | refine at_skip rfl rfl rfl rfl rfl rfl rfl (by decide) ?_ | refine at_skipu rfl rfl rfl rfl rfl rfl (by decide) ?_
        first | refine at_gon rfl rfl rfl rfl rfl rfl (by decide) (rd_move rfl rfl) ?_ | refine at_skip rfl rfl rfl rfl rfl rfl rfl (by decide) ?_ | refine at_skipu rfl rfl rfl rfl rfl rfl (by decide) ?_
        first | refine at_gon rfl rfl rfl rfl rfl rfl (by decide) (rd_move rfl rfl) ?_ | refine at_skip rfl rfl rfl rfl rfl rfl rfl (by decide) ?_ | refine at_skipu rfl rfl rfl rfl rfl rfl (by decide) ?_
        first | refine at_gon rfl rfl rfl rfl rfl rfl (by decide) (rd_subz (z := (j : Int)) rfl rfl rfl (by omega) (by omega)) ?_ | refine at_skip rfl rfl rfl rfl rfl rfl rfl (by decide) ?_ | refine at_skipu rfl rfl rfl rfl rfl rfl (by decide) ?_
        first | refine at_gon rfl rfl rfl rfl rfl rfl (by decide) (rd_index rfl Te54 rfl rfl rfl (by first | rfl | omega) (by omega)) ?_ | refine at_gon rfl rfl rfl rfl rfl rfl (by decide) (rd_indexq rfl Te54 rfl rfl (by first | rfl | omega) (by assumption) rfl) ?_ | refine at_skip rfl rfl rfl rfl rfl rfl rfl (by decide) ?_ | refine at_skipu rfl rfl rfl rfl rfl rfl (by decide) ?_
        first | refine at_gon rfl rfl rfl rfl rfl rfl (by decide) (rd_field rfl rfl Tf64_1) ?_ | refine at_gon rfl rfl rfl rfl rfl rfl (by decide) (rd_fieldq rfl rfl Tf64_1) ?_ | refine at_skip rfl rfl rfl rfl rfl rfl rfl (by decide) ?_ | refine at_skipu rfl rfl rfl rfl rfl rfl (by decide) ?_
        first | refine at_gon rfl rfl rfl rfl rfl rfl (by decide) (rd_loadn1 rfl Tk3 rfl (by first | exact CB rfl | exact CQ | exact CA rfl (by first | assumption | (rw [Nat.zero_add]; assumption))) (by (try simp only [nm, putL, Nat.reduceAdd, cellsOf, cvOf]) <;> rfl)) ?_ | refine at_skip rfl rfl rfl rfl rfl rfl rfl (by decide) ?_ | refine at_skipu rfl rfl rfl rfl rfl rfl (by decide) ?_
        first | refine at_gon rfl rfl rfl rfl rfl rfl (by decide) (rd_move rfl rfl) ?_ | refine at_skip rfl rfl rfl rfl rfl rfl rfl (by decide) ?_ | refine at_skipu rfl rfl rfl rfl rfl rfl (by decide) ?_
        first | refine at_gon rfl rfl rfl rfl rfl rfl (by decide) (rd_move rfl rfl) ?_ | refine at_skip rfl rfl rfl rfl rfl rfl rfl (by decide) ?_ | refine at_skipu rfl rfl rfl rfl rfl rfl (by decide) ?_
        first | refine at_gon rfl rfl rfl rfl rfl rfl (by decide) (rd_index rfl Te54 rfl rfl rfl (by first | rfl | omega) (by omega)) ?_ | refine at_gon rfl rfl rfl rfl rfl rfl (by decide) (rd_indexq rfl Te54 rfl rfl (by first | rfl | omega) (by assumption) rfl) ?_ | refine at_skip rfl rfl rfl rfl rfl rfl rfl (by decide) ?_ | refine at_skipu rfl rfl rfl rfl rfl rfl (by decide) ?_
        first | refine at_gon rfl rfl rfl rfl rfl rfl (by decide) (rd_field rfl rfl Tf64_1) ?_ | refine at_gon rfl rfl rfl rfl rfl rfl (by decide) (rd_fieldq rfl rfl Tf64_1) ?_ | refine at_skip rfl rfl rfl rfl rfl rfl rfl (by decide) ?_ | refine at_skipu rfl rfl rfl rfl rfl rfl (by decide) ?_
        first | refine at_gon rfl rfl rfl rfl rfl rfl (by decide) (rd_loadn1 rfl Tk3 rfl (by first | exact CB rfl | exact CQ | exact CA rfl (by first | assumption | (rw [Nat.zero_add]; assumption))) (by (try simp only [nm, putL, Nat.reduceAdd, cellsOf, cvOf]) <;> rfl)) ?_ | refine at_skip rfl rfl rfl rfl rfl rfl rfl (by decide) ?_ | refine at_skipu rfl rfl rfl rfl rfl rfl (by decide) ?_
        first | refine at_gon rfl rfl rfl rfl rfl rfl (by decide) (rd_min3 rfl rfl rfl rfl) ?_ | refine at_skip rfl rfl rfl rfl rfl rfl rfl (by decide) ?_ | refine at_skipu rfl rfl rfl rfl rfl rfl (by decide) ?_
        first | refine at_gon rfl rfl rfl rfl rfl rfl (by decide) (rd_gtr_t rfl rfl rfl (by omega)) ?_ | refine at_gon rfl rfl rfl rfl rfl rfl (by decide) (rd_gtr_f rfl rfl rfl (by omega)) ?_ | refine at_gon rfl rfl rfl rfl rfl rfl (by decide) (rd_gtr rfl rfl rfl) ?_ | refine at_skip rfl rfl rfl rfl rfl rfl rfl (by decide) ?_ | refine at_skipu rfl rfl rfl rfl rfl rfl (by decide) ?_
        first | refine RT rfl rfl rfl (by decide) (rd_pick_t rfl rfl rfl) ?_ | refine RT rfl rfl rfl (by decide) (rd_pick_f rfl rfl rfl) ?_
        refine at_nil ?_
        repeat with_reducible first | refine S1 ?_ | refine S2 ?_ | refine S3 ?_ | refine S4 ?_ | refine S5 ?_ | refine S6 ?_ | refine S7 ?_ | refine S8 ?_ | refine S9 rfl ?_ | refine SA ?_ | refine SB ?_ | refine SC ?_
        refine aw_cond_f rfl ?_
        repeat with_reducible first | refine S1 ?_ | refine S2 ?_ | refine S3 ?_ | refine S4 ?_ | refine S5 ?_ | refine S6 ?_ | refine S7 ?_ | refine S8 ?_ | refine S9 rfl ?_ | refine SA ?_ | refine SB ?_ | refine SC ?_
        repeat with_reducible first | refine S1 ?_ | refine S2 ?_ | refine S3 ?_ | refine S4 ?_ | refine S5 ?_ | refine S6 ?_ | refine S7 ?_ | refine S8 ?_ | refine S9 rfl ?_ | refine SA ?_ | refine SB ?_ | refine SC ?_
        refine aw_region ?_
        first | refine RA rfl rfl (by decide) (rd_addn rfl rfl rfl (by omega)) ?_ | refine RA rfl rfl (by decide) (rd_add rfl rfl rfl) ?_
        refine RA rfl rfl (by decide) (rd_move rfl rfl) ?_
        refine al_nil ?_
        repeat with_reducible first | refine S1 ?_ | refine S2 ?_ | refine S3 ?_ | refine S4 ?_ | refine S5 ?_ | refine S6 ?_ | refine S7 ?_ | refine S8 ?_ | refine S9 rfl ?_ | refine SA ?_ | refine SB ?_ | refine SC ?_
        refine wk_of [] (fun _ => [(0, .c (legs_r v l)), (1, .c (ints_r w cs)), (2, .c (ints_r vq q)), (3, .c (I ch)), (13, .c (ints_r vq q)), (14, .c (I (q.map fun z => [I z]).length)), (15, .c (I (k + 1 : Nat)))]) (fun _ => _) (by decide) (by rw [hE]; first | exact (fun _ hi => absurd hi (Nat.not_lt_zero _)) | exact (fun i hi => by (have hi : i < 1 := hi); (have h0 : i = 0 := (by omega)); (subst h0); rfl)) (by intro _g; (repeat first | exact W0 | apply W1 rfl | exact L0 | apply L1 | exact V1 rfl | exact V2 rfl | exact V3 rfl rfl | exact V4 | exact V5 rfl | exact V3 rfl (by simp; omega) | exact V1 (by simp; omega) | exact V3 rfl (by simp) | exact V1 (by simp) | exact V6 rfl rfl (by first | rfl | simp) (by simp) rfl | apply V7 | apply V8 | apply V9 | refine V1 ?_ | refine V3 rfl ?_); fail_if_success focus skip) (by intro _g; (repeat first | exact K0 | apply K1 rfl | apply K2 rfl rfl | apply K2 rfl (by simp) | apply K3 | exact L0 | apply L1 | exact V1 rfl | exact V2 rfl | exact V3 rfl rfl | exact V4 | exact V5 rfl | exact V3 rfl (by simp; omega) | exact V1 (by simp; omega) | exact V3 rfl (by simp) | exact V1 (by simp) | exact V6 rfl rfl (by first | rfl | simp) (by simp) rfl | apply V7 | apply V8 | apply V9); fail_if_success focus skip) (fun _ => ?_)
        exact ⟨m - 1, by omega, k + 1, by omega, fun i hi => by
          by_cases hik : i = k
          · subst hik; rw [hz, hk0, c0]; omega
          · exact hfst i (by omega), rfl, rfl⟩
      · repeat with_reducible first | refine S1 ?_ | refine S2 ?_ | refine S3 ?_ | refine S4 ?_ | refine S5 ?_ | refine S6 ?_ | refine S7 ?_ | refine S8 ?_ | refine S9 rfl ?_ | refine SA ?_ | refine SB ?_ | refine SC ?_
        refine aw_region ?_
        refine RA rfl rfl (by decide) (rd_move rfl rfl) ?_
        first | refine RA rfl rfl (by decide) (rd_lss_t rfl rfl rfl (by omega)) ?_ | refine RA rfl rfl (by decide) (rd_lss_f rfl rfl rfl (by omega)) ?_ | refine RA rfl rfl (by decide) (rd_lss rfl rfl rfl) ?_
        refine RA rfl rfl (by decide) (rd_move rfl rfl) ?_
        first | (refine G1 rfl ?_; (refine RA rfl rfl (by decide) (rd_move rfl rfl) ?_)) | refine G2 rfl rfl (by decide) ?_
        first | (refine G1 rfl ?_; (first | refine RA rfl rfl (by decide) (rd_eql_t rfl rfl rfl (by omega)) ?_ | refine RA rfl rfl (by decide) (rd_eql_f rfl rfl rfl (by omega)) ?_ | refine RA rfl rfl (by decide) (rd_eql rfl rfl rfl) ?_)) | refine G2 rfl rfl (by decide) ?_
        first | (refine G1 rfl ?_; (refine RA rfl rfl (by decide) (rd_move rfl rfl) ?_)) | refine G2 rfl rfl (by decide) ?_
        first | (refine G1 rfl ?_; (refine RA rfl rfl (by decide) (rd_move rfl rfl) ?_)) | refine G2 rfl rfl (by decide) ?_
        first | (refine G1 rfl ?_; (refine RA rfl rfl (by decide) (rd_move rfl rfl) ?_)) | refine G2 rfl rfl (by decide) ?_
        first | (refine G1 rfl ?_; (first | refine RA rfl rfl (by decide) (rd_len rfl Te54 rfl) ?_ | refine RA rfl rfl (by decide) (rd_lenr rfl Te54 rfl) ?_)) | refine G2 rfl rfl (by decide) ?_
        first | (refine G1 rfl ?_; (first | refine RA rfl rfl (by decide) (rd_eql_t rfl rfl rfl (by omega)) ?_ | refine RA rfl rfl (by decide) (rd_eql_f rfl rfl rfl (by omega)) ?_ | refine RA rfl rfl (by decide) (rd_eql rfl rfl rfl) ?_)) | refine G2 rfl rfl (by decide) ?_
        first | (refine G1 rfl ?_; (first | refine RA rfl rfl (by decide) (rd_pick_t rfl rfl rfl) ?_ | refine RA rfl rfl (by decide) (rd_pick_f rfl rfl rfl) ?_)) | refine G2 rfl rfl (by decide) ?_
        first | (refine G1 rfl ?_; (refine RA rfl rfl (by decide) (rd_move rfl rfl) ?_)) | refine G2 rfl rfl (by decide) ?_
        first | (refine G1 rfl ?_; (refine RA rfl rfl (by decide) (rd_move rfl rfl) ?_)) | refine G2 rfl rfl (by decide) ?_
        first | (refine G1 rfl ?_; (first | refine RA rfl rfl (by decide) (rd_neq_t rfl rfl rfl (by omega)) ?_ | refine RA rfl rfl (by decide) (rd_neq_f rfl rfl rfl (by omega)) ?_ | refine RA rfl rfl (by decide) (rd_neq rfl rfl rfl) ?_)) | refine G2 rfl rfl (by decide) ?_
        first | (refine G1 rfl ?_; (first | refine RA rfl rfl (by decide) (rd_pick_t rfl rfl rfl) ?_ | refine RA rfl rfl (by decide) (rd_pick_f rfl rfl rfl) ?_)) | refine G2 rfl rfl (by decide) ?_
        first | refine RA rfl rfl (by decide) (rd_pick_t rfl rfl rfl) ?_ | refine RA rfl rfl (by decide) (rd_pick_f rfl rfl rfl) ?_
        refine al_nil ?_
        repeat with_reducible first | refine S1 ?_ | refine S2 ?_ | refine S3 ?_ | refine S4 ?_ | refine S5 ?_ | refine S6 ?_ | refine S7 ?_ | refine S8 ?_ | refine S9 rfl ?_ | refine SA ?_ | refine SB ?_ | refine SC ?_
        refine aw_cond_t rfl ?_
        repeat with_reducible first | refine S1 ?_ | refine S2 ?_ | refine S3 ?_ | refine S4 ?_ | refine S5 ?_ | refine S6 ?_ | refine S7 ?_ | refine S8 ?_ | refine S9 rfl ?_ | refine SA ?_ | refine SB ?_ | refine SC ?_
        refine aw_region ?_
        refine RA rfl rfl (by decide) (rd_assign rfl rfl) ?_
        refine al_nil ?_
        repeat with_reducible first | refine S1 ?_ | refine S2 ?_ | refine S3 ?_ | refine S4 ?_ | refine S5 ?_ | refine S6 ?_ | refine S7 ?_ | refine S8 ?_ | refine S9 rfl ?_ | refine SA ?_ | refine SB ?_ | refine SC ?_
        exact aret_1 [] _ rfl rfl rfl (by decide) (fun _ hi => absurd hi (Nat.not_lt_zero _)) (by intro _g; (repeat first | exact K0 | apply K1 rfl | apply K2 rfl rfl | apply K2 rfl (by simp) | apply K3 | exact L0 | apply L1 | exact V1 rfl | exact V2 rfl | exact V3 rfl rfl | exact V4 | exact V5 rfl | exact V3 rfl (by simp; omega) | exact V1 (by simp; omega) | exact V3 rfl (by simp) | exact V1 (by simp) | exact V6 rfl rfl (by first | rfl | simp) (by simp) rfl | apply V7 | apply V8 | apply V9); fail_if_success focus skip) ⟨false, rfl, rfl, by simp only [Bool.false_eq_true, false_iff]; intro hK; have h2 := hK.1 k (by omega); rw [hk0, c0, ← hk0] at h2; omega⟩
    by_cases hkn : k = l.length
    · by_cases hz : q.getD k 0 = 0
      · repeat with_reducible first | refine S1 ?_ | refine S2 ?_ | refine S3 ?_ | refine S4 ?_ | refine S5 ?_ | refine S6 ?_ | refine S7 ?_ | refine S8 ?_ | refine S9 rfl ?_ | refine SA ?_ | refine SB ?_ | refine SC ?_
        refine aw_region ?_
        refine RA rfl rfl (by decide) (rd_move rfl rfl) ?_
        first | refine RA rfl rfl (by decide) (rd_lss_t rfl rfl rfl (by omega)) ?_ | refine RA rfl rfl (by decide) (rd_lss_f rfl rfl rfl (by omega)) ?_ | refine RA rfl rfl (by decide) (rd_lss rfl rfl rfl) ?_
        refine RA rfl rfl (by decide) (rd_move rfl rfl) ?_
        first | (refine G1 rfl ?_; (refine RA rfl rfl (by decide) (rd_move rfl rfl) ?_)) | refine G2 rfl rfl (by decide) ?_
        first | (refine G1 rfl ?_; (first | refine RA rfl rfl (by decide) (rd_eql_t rfl rfl rfl (by omega)) ?_ | refine RA rfl rfl (by decide) (rd_eql_f rfl rfl rfl (by omega)) ?_ | refine RA rfl rfl (by decide) (rd_eql rfl rfl rfl) ?_)) | refine G2 rfl rfl (by decide) ?_
        first | (refine G1 rfl ?_; (refine RA rfl rfl (by decide) (rd_move rfl rfl) ?_)) | refine G2 rfl rfl (by decide) ?_
        first | (refine G1 rfl ?_; (refine RA rfl rfl (by decide) (rd_move rfl rfl) ?_)) | refine G2 rfl rfl (by decide) ?_
        first | (refine G1 rfl ?_; (refine RA rfl rfl (by decide) (rd_move rfl rfl) ?_)) | refine G2 rfl rfl (by decide) ?_
        first | (refine G1 rfl ?_; (first | refine RA rfl rfl (by decide) (rd_len rfl Te54 rfl) ?_ | refine RA rfl rfl (by decide) (rd_lenr rfl Te54 rfl) ?_)) | refine G2 rfl rfl (by decide) ?_
        first | (refine G1 rfl ?_; (first | refine RA rfl rfl (by decide) (rd_eql_t rfl rfl rfl (by omega)) ?_ | refine RA rfl rfl (by decide) (rd_eql_f rfl rfl rfl (by omega)) ?_ | refine RA rfl rfl (by decide) (rd_eql rfl rfl rfl) ?_)) | refine G2 rfl rfl (by decide) ?_
        first | (refine G1 rfl ?_; (first | refine RA rfl rfl (by decide) (rd_pick_t rfl rfl rfl) ?_ | refine RA rfl rfl (by decide) (rd_pick_f rfl rfl rfl) ?_)) | refine G2 rfl rfl (by decide) ?_
        first | (refine G1 rfl ?_; (refine RA rfl rfl (by decide) (rd_move rfl rfl) ?_)) | refine G2 rfl rfl (by decide) ?_
        first | (refine G1 rfl ?_; (refine RA rfl rfl (by decide) (rd_move rfl rfl) ?_)) | refine G2 rfl rfl (by decide) ?_
        first | (refine G1 rfl ?_; (first | refine RA rfl rfl (by decide) (rd_neq_t rfl rfl rfl (by omega)) ?_ | refine RA rfl rfl (by decide) (rd_neq_f rfl rfl rfl (by omega)) ?_ | refine RA rfl rfl (by decide) (rd_neq rfl rfl rfl) ?_)) | refine G2 rfl rfl (by decide) ?_
        first | (refine G1 rfl ?_; (first | refine RA rfl rfl (by decide) (rd_pick_t rfl rfl rfl) ?_ | refine RA rfl rfl (by decide) (rd_pick_f rfl rfl rfl) ?_)) | refine G2 rfl rfl (by decide) ?_
        first | refine RA rfl rfl (by decide) (rd_pick_t rfl rfl rfl) ?_ | refine RA rfl rfl (by decide) (rd_pick_f rfl rfl rfl) ?_
        refine al_nil ?_
        repeat with_reducible first | refine S1 ?_ | refine S2 ?_ | refine S3 ?_ | refine S4 ?_ | refine S5 ?_ | refine S6 ?_ | refine S7 ?_ | refine S8 ?_ | refine S9 rfl ?_ | refine SA ?_ | refine SB ?_ | refine SC ?_
        refine aw_cond_f rfl ?_
        repeat with_reducible first | refine S1 ?_ | refine S2 ?_ | refine S3 ?_ | refine S4 ?_ | refine S5 ?_ | refine S6 ?_ | refine S7 ?_ | refine S8 ?_ | refine S9 rfl ?_ | refine SA ?_ | refine SB ?_ | refine SC ?_
        repeat with_reducible first | refine S1 ?_ | refine S2 ?_ | refine S3 ?_ | refine S4 ?_ | refine S5 ?_ | refine S6 ?_ | refine S7 ?_ | refine S8 ?_ | refine S9 rfl ?_ | refine SA ?_ | refine SB ?_ | refine SC ?_
        refine aw_regionT [(0, none), (1, none), (2, none), (3, none), (4, none), (5, none), (6, none), (7, none), (8, none), (9, none), (10, none), (11, none), (12, none), (13, none), (14, none), (15, none), (16, none), (17, none), (18, none), (19, none), (20, none), (21, none), (22, none), (23, none), (24, none), (25, none), (26, none), (27, none), (28, none)] hMixed (by kernel_rfl) ?_
        refine RT rfl rfl rfl (by decide) (rd_move rfl rfl) ?_
        first | refine RT rfl rfl rfl (by decide) (rd_gtr_t rfl rfl rfl (by omega)) ?_ | refine RT rfl rfl rfl (by decide) (rd_gtr_f rfl rfl rfl (by omega)) ?_ | refine RT rfl rfl rfl (by decide) (rd_gtr rfl rfl rfl) ?_
        refine RT rfl rfl rfl (by decide) (rd_move rfl rfl) ?_
        first | refine at_gon rfl rfl rfl rfl rfl rfl (by decide) (rd_move rfl rfl) ?_ | refine at_skip rfl rfl rfl rfl rfl rfl rfl (by decide) ?_ | refine at_skipu rfl rfl rfl rfl rfl rfl (by decide) ?_
        first | refine at_gon rfl rfl rfl rfl rfl rfl (by decide) (rd_move rfl rfl) ?_ | refine at_skip rfl rfl rfl rfl rfl rfl rfl (by decide) ?_ | refine at_skipu rfl rfl rfl rfl rfl rfl (by decide) ?_
        first | refine at_gon rfl rfl rfl rfl rfl rfl (by decide) (rd_len rfl Te54 rfl) ?_ | refine at_gon rfl rfl rfl rfl rfl rfl (by decide) (rd_lenr rfl Te54 rfl) ?_ | refine at_skip rfl rfl rfl rfl rfl rfl rfl (by decide) ?_ | refine at_skipu rfl rfl rfl rfl rfl rfl (by decide) ?_
        first | refine at_gon rfl rfl rfl rfl rfl rfl (by decide) (rd_lss_t rfl rfl rfl (by omega)) ?_ | refine at_gon rfl rfl rfl rfl rfl rfl (by decide) (rd_lss_f rfl rfl rfl (by omega)) ?_ | refine at_gon rfl rfl rfl rfl rfl rfl (by decide) (rd_lss rfl rfl rfl) ?_ | refine at_skip rfl rfl rfl rfl rfl rfl rfl (by decide) ?_ | refine at_skipu rfl rfl rfl rfl rfl rfl (by decide) ?_
        first | refine RT rfl rfl rfl (by decide) (rd_pick_t rfl rfl rfl) ?_ | refine RT rfl rfl rfl (by decide) (rd_pick_f rfl rfl rfl) ?_
        refine RT rfl rfl rfl (by decide) (rd_move rfl rfl) ?_
        first | refine at_gon rfl rfl rfl rfl rfl rfl (by decide) (rd_move rfl rfl) ?_ | refine at_skip rfl rfl rfl rfl rfl rfl rfl (by decide) ?_ | refine at_skipu rfl rfl rfl rfl rfl rfl (by decide) ?_
        first | refine at_gon rfl rfl rfl rfl rfl rfl (by decide) (rd_move rfl rfl) ?_ | refine at_skip rfl rfl rfl rfl rfl rfl rfl (by decide) ?_ | refine at_skipu rfl rfl rfl rfl rfl rfl (by decide) ?_
        first | refine at_gon rfl rfl rfl rfl rfl rfl (by decide) (rd_move rfl rfl) ?_ | refine at_skip rfl rfl rfl rfl rfl rfl rfl (by decide) ?_ | refine at_skipu rfl rfl rfl rfl rfl rfl (by decide) ?_
        first | refine at_gon rfl rfl rfl rfl rfl rfl (by decide) (rd_subz (z := (j : Int)) rfl rfl rfl (by omega) (by omega)) ?_ | refine at_skip rfl rfl rfl rfl rfl rfl rfl (by decide) ?_ | refine at_skipu rfl rfl rfl rfl rfl rfl (by decide) ?_
        first | refine at_gon rfl rfl rfl rfl rfl rfl (by decide) (rd_index rfl Te22 rfl rfl rfl (by first | rfl | omega) (by omega)) ?_ | refine at_gon rfl rfl rfl rfl rfl rfl (by decide) (rd_indexq rfl Te22 rfl rfl (by first | rfl | omega) (by assumption) rfl) ?_ | refine at_skip rfl rfl rfl rfl rfl rfl rfl (by decide) ?_ | refine at_skipu rfl rfl rfl rfl rfl rfl (by decide) ?_
        first | refine at_gon rfl rfl rfl rfl rfl rfl (by decide) (rd_loadn1 rfl Tk3 rfl (by first | exact CB rfl | exact CQ | exact CA rfl (by first | assumption | (rw [Nat.zero_add]; assumption))) (by (try simp only [nm, putL, Nat.reduceAdd, cellsOf, cvOf]) <;> rfl)) ?_ | refine at_skip rfl rfl rfl rfl rfl rfl rfl (by decide) ?_ | refine at_skipu rfl rfl rfl rfl rfl rfl (by decide) ?_
        first | refine at_gon rfl rfl rfl rfl rfl rfl (by decide) (rd_move rfl rfl) ?_ | refine at_skip rfl rfl rfl rfl rfl rfl rfl (by decide) ?_ | refine at_skipu rfl rfl rfl rfl rfl rfl (by decide) ?_
        first | refine at_gon rfl rfl rfl rfl rfl rfl (by decide) (rd_move rfl rfl) ?_ | refine at_skip rfl rfl rfl rfl rfl rfl rfl (by decide) ?_ | refine at_skipu rfl rfl rfl rfl rfl rfl (by decide) ?_
        first | refine at_gon rfl rfl rfl rfl rfl rfl (by decide) (rd_subz (z := (j : Int)) rfl rfl rfl (by omega) (by omega)) ?_ | refine at_skip rfl rfl rfl rfl rfl rfl rfl (by decide) ?_ | refine at_skipu rfl rfl rfl rfl rfl rfl (by decide) ?_
        first | refine at_gon rfl rfl rfl rfl rfl rfl (by decide) (rd_index rfl Te54 rfl rfl rfl (by first | rfl | omega) (by omega)) ?_ | refine at_gon rfl rfl rfl rfl rfl rfl (by decide) (rd_indexq rfl Te54 rfl rfl (by first | rfl | omega) (by assumption) rfl) ?_ | refine at_skip rfl rfl rfl rfl rfl rfl rfl (by decide) ?_ | refine at_skipu rfl rfl rfl rfl rfl rfl (by decide) ?_
        first | refine at_gon rfl rfl rfl rfl rfl rfl (by decide) (rd_field rfl rfl Tf64_1) ?_ | refine at_gon rfl rfl rfl rfl rfl rfl (by decide) (rd_fieldq rfl rfl Tf64_1) ?_ | refine at_skip rfl rfl rfl rfl rfl rfl rfl (by decide) ?_ | refine at_skipu rfl rfl rfl rfl rfl rfl (by decide) ?_
        first | refine at_gon rfl rfl rfl rfl rfl rfl (by decide) (rd_loadn1 rfl Tk3 rfl (by first | exact CB rfl | exact CQ | exact CA rfl (by first | assumption | (rw [Nat.zero_add]; assumption))) (by (try simp only [nm, putL, Nat.reduceAdd, cellsOf, cvOf]) <;> rfl)) ?_ | refine at_skip rfl rfl rfl rfl rfl rfl rfl (by decide) ?_ | refine at_skipu rfl rfl rfl rfl rfl rfl (by decide) ?_
        first | refine at_gon rfl rfl rfl rfl rfl rfl (by decide) (rd_move rfl rfl) ?_ | refine at_skip rfl rfl rfl rfl rfl rfl rfl (by decide) ?_ | refine at_skipu rfl rfl rfl rfl rfl rfl (by decide) ?_
        first | refine at_gon rfl rfl rfl rfl rfl rfl (by decide) (rd_move rfl rfl) ?_ | refine at_skip rfl rfl rfl rfl rfl rfl rfl (by decide) ?_ | refine at_skipu rfl rfl rfl rfl rfl rfl (by decide) ?_
        first | refine at_gon rfl rfl rfl rfl rfl rfl (by decide) (rd_index rfl Te54 rfl rfl rfl (by first | rfl | omega) (by omega)) ?_ | refine at_gon rfl rfl rfl rfl rfl rfl (by decide) (rd_indexq rfl Te54 rfl rfl (by first | rfl | omega) (by assumption) rfl) ?_ | refine at_skip rfl rfl rfl rfl rfl rfl rfl (by decide) ?_ | refine at_skipu rfl rfl rfl rfl rfl rfl (by decide) ?_
        first | refine at_gon rfl rfl rfl rfl rfl rfl (by decide) (rd_field rfl rfl Tf64_1) ?_ | refine at_gon rfl rfl rfl rfl rfl rfl (by decide) (rd_fieldq rfl rfl Tf64_1) ?_ | refine at_skip rfl rfl rfl rfl rfl rfl rfl (by decide) ?_ | refine at_skipu rfl rfl rfl rfl rfl rfl (by decide) ?_
        first | refine at_gon rfl rfl rfl rfl rfl rfl (by decide) (rd_loadn1 rfl Tk3 rfl (by first | exact CB rfl | exact CQ | exact CA rfl (by first | assumption | (rw [Nat.zero_add]; assumption))) (by (try simp only [nm, putL, Nat.reduceAdd, cellsOf, cvOf]) <;> rfl)) ?_ | refine at_skip rfl rfl rfl rfl rfl rfl rfl (by decide) ?_ | refine at_skipu rfl rfl rfl rfl rfl rfl (by decide) ?_
        first | refine at_gon rfl rfl rfl rfl rfl rfl (by decide) (rd_min3 rfl rfl rfl rfl) ?_ | refine at_skip rfl rfl rfl rfl rfl rfl rfl (by decide) ?_ | refine at_skipu rfl rfl rfl rfl rfl rfl (by decide) ?_
        first | refine at_gon rfl rfl rfl rfl rfl rfl (by decide) (rd_gtr_t rfl rfl rfl (by omega)) ?_ | refine at_gon rfl rfl rfl rfl rfl rfl (by decide) (rd_gtr_f rfl rfl rfl (by omega)) ?_ | refine at_gon rfl rfl rfl rfl rfl rfl (by decide) (rd_gtr rfl rfl rfl) ?_ | refine at_skip rfl rfl rfl rfl rfl rfl rfl (by decide) ?_ | refine at_skipu rfl rfl rfl rfl rfl rfl (by decide) ?_
        first | refine RT rfl rfl rfl (by decide) (rd_pick_t rfl rfl rfl) ?_ | refine RT rfl rfl rfl (by decide) (rd_pick_f rfl rfl rfl) ?_
        refine at_nil ?_
        repeat with_reducible first | refine S1 ?_ | refine S2 ?_ | refine S3 ?_ | refine S4 ?_ | refine S5 ?_ | refine S6 ?_ | refine S7 ?_ | refine S8 ?_ | refine S9 rfl ?_ | refine SA ?_ | refine SB ?_ | refine SC ?_
        refine aw_cond_f rfl ?_
        repeat with_reducible first | refine S1 ?_ | refine S2 ?_ | refine S3 ?_ | refine S4 ?_ | refine S5 ?_ | refine S6 ?_ | refine S7 ?_ | refine S8 ?_ | refine S9 rfl ?_ | refine SA ?_ | refine SB ?_ | refine SC ?_
        repeat with_reducible first | refine S1 ?_ | refine S2 ?_ | refine S3 ?_ | refine S4 ?_ | refine S5 ?_ | refine S6 ?_ | refine S7 ?_ | refine S8 ?_ | refine S9 rfl ?_ | refine SA ?_ | refine SB ?_ | refine SC ?_
        refine aw_region ?_
        first | refine RA rfl rfl (by decide) (rd_addn rfl rfl rfl (by omega)) ?_ | refine RA rfl rfl (by decide) (rd_add rfl rfl rfl) ?_
        refine RA rfl rfl (by decide) (rd_move rfl rfl) ?_
        refine al_nil ?_
        repeat with_reducible first | refine S1 ?_ | refine S2 ?_ | refine S3 ?_ | refine S4 ?_ | refine S5 ?_ | refine S6 ?_ | refine S7 ?_ | refine S8 ?_ | refine S9 rfl ?_ | refine SA ?_ | refine SB ?_ | refine SC ?_
        refine wk_of [] (fun _ => [(0, .c (legs_r v l)), (1, .c (ints_r w cs)), (2, .c (ints_r vq q)), (3, .c (I ch)), (13, .c (ints_r vq q)), (14, .c (I (q.map fun z => [I z]).length)), (15, .c (I (k + 1 : Nat)))]) (fun _ => _) (by decide) (by rw [hE]; first | exact (fun _ hi => absurd hi (Nat.not_lt_zero _)) | exact (fun i hi => by (have hi : i < 1 := hi); (have h0 : i = 0 := (by omega)); (subst h0); rfl)) (by intro _g; (repeat first | exact W0 | apply W1 rfl | exact L0 | apply L1 | exact V1 rfl | exact V2 rfl | exact V3 rfl rfl | exact V4 | exact V5 rfl | exact V3 rfl (by simp; omega) | exact V1 (by simp; omega) | exact V3 rfl (by simp) | exact V1 (by simp) | exact V6 rfl rfl (by first | rfl | simp) (by simp) rfl | apply V7 | apply V8 | apply V9 | refine V1 ?_ | refine V3 rfl ?_); fail_if_success focus skip) (by intro _g; (repeat first | exact K0 | apply K1 rfl | apply K2 rfl rfl | apply K2 rfl (by simp) | apply K3 | exact L0 | apply L1 | exact V1 rfl | exact V2 rfl | exact V3 rfl rfl | exact V4 | exact V5 rfl | exact V3 rfl (by simp; omega) | exact V1 (by simp; omega) | exact V3 rfl (by simp) | exact V1 (by simp) | exact V6 rfl rfl (by first | rfl | simp) (by simp) rfl | apply V7 | apply V8 | apply V9); fail_if_success focus skip) (fun _ => ?_)
        exact ⟨m - 1, by omega, k + 1, by omega, fun i hi => by
          by_cases hik : i = k
          · subst hik; rw [hz, hkn, cn]; omega
          · exact hfst i (by omega), rfl, rfl⟩
      · repeat with_reducible first | refine S1 ?_ | refine S2 ?_ | refine S3 ?_ | refine S4 ?_ | refine S5 ?_ | refine S6 ?_ | refine S7 ?_ | refine S8 ?_ | refine S9 rfl ?_ | refine SA ?_ | refine SB ?_ | refine SC ?_
        refine aw_region ?_
        refine RA rfl rfl (by decide) (rd_move rfl rfl) ?_
        first | refine RA rfl rfl (by decide) (rd_lss_t rfl rfl rfl (by omega)) ?_ | refine RA rfl rfl (by decide) (rd_lss_f rfl rfl rfl (by omega)) ?_ | refine RA rfl rfl (by decide) (rd_lss rfl rfl rfl) ?_
        refine RA rfl rfl (by decide) (rd_move rfl rfl) ?_
        first | (refine G1 rfl ?_; (refine RA rfl rfl (by decide) (rd_move rfl rfl) ?_)) | refine G2 rfl rfl (by decide) ?_
        first | (refine G1 rfl ?_; (first | refine RA rfl rfl (by decide) (rd_eql_t rfl rfl rfl (by omega)) ?_ | refine RA rfl rfl (by decide) (rd_eql_f rfl rfl rfl (by omega)) ?_ | refine RA rfl rfl (by decide) (rd_eql rfl rfl rfl) ?_)) | refine G2 rfl rfl (by decide) ?_
        first | (refine G1 rfl ?_; (refine RA rfl rfl (by decide) (rd_move rfl rfl) ?_)) | refine G2 rfl rfl (by decide) ?_
        first | (refine G1 rfl ?_; (refine RA rfl rfl (by decide) (rd_move rfl rfl) ?_)) | refine G2 rfl rfl (by decide) ?_
        first | (refine G1 rfl ?_; (refine RA rfl rfl (by decide) (rd_move rfl rfl) ?_)) | refine G2 rfl rfl (by decide) ?_
        first | (refine G1 rfl ?_; (first | refine RA rfl rfl (by decide) (rd_len rfl Te54 rfl) ?_ | refine RA rfl rfl (by decide) (rd_lenr rfl Te54 rfl) ?_)) | refine G2 rfl rfl (by decide) ?_
        first | (refine G1 rfl ?_; (first | refine RA rfl rfl (by decide) (rd_eql_t rfl rfl rfl (by omega)) ?_ | refine RA rfl rfl (by decide) (rd_eql_f rfl rfl rfl (by omega)) ?_ | refine RA rfl rfl (by decide) (rd_eql rfl rfl rfl) ?_)) | refine G2 rfl rfl (by decide) ?_
        first | (refine G1 rfl ?_; (first | refine RA rfl rfl (by decide) (rd_pick_t rfl rfl rfl) ?_ | refine RA rfl rfl (by decide) (rd_pick_f rfl rfl rfl) ?_)) | refine G2 rfl rfl (by decide) ?_
        first | (refine G1 rfl ?_; (refine RA rfl rfl (by decide) (rd_move rfl rfl) ?_)) | refine G2 rfl rfl (by decide) ?_
        first | (refine G1 rfl ?_; (refine RA rfl rfl (by decide) (rd_move rfl rfl) ?_)) | refine G2 rfl rfl (by decide) ?_
        first | (refine G1 rfl ?_; (first | refine RA rfl rfl (by decide) (rd_neq_t rfl rfl rfl (by omega)) ?_ | refine RA rfl rfl (by decide) (rd_neq_f rfl rfl rfl (by omega)) ?_ | refine RA rfl rfl (by decide) (rd_neq rfl rfl rfl) ?_)) | refine G2 rfl rfl (by decide) ?_
        first | (refine G1 rfl ?_; (first | refine RA rfl rfl (by decide) (rd_pick_t rfl rfl rfl) ?_ | refine RA rfl rfl (by decide) (rd_pick_f rfl rfl rfl) ?_)) | refine G2 rfl rfl (by decide) ?_
        first | refine RA rfl rfl (by decide) (rd_pick_t rfl rfl rfl) ?_ | refine RA rfl rfl (by decide) (rd_pick_f rfl rfl rfl) ?_
        refine al_nil ?_
        repeat with_reducible first | refine S1 ?_ | refine S2 ?_ | refine S3 ?_ | refine S4 ?_ | refine S5 ?_ | refine S6 ?_ | refine S7 ?_ | refine S8 ?_ | refine S9 rfl ?_ | refine SA ?_ | refine SB ?_ | refine SC ?_
        refine aw_cond_t rfl ?_
        repeat with_reducible first | refine S1 ?_ | refine S2 ?_ | refine S3 ?_ | refine S4 ?_ | refine S5 ?_ | refine S6 ?_ | refine S7 ?_ | refine S8 ?_ | refine S9 rfl ?_ | refine SA ?_ | refine SB ?_ | refine SC ?_
        refine aw_region ?_
        refine RA rfl rfl (by decide) (rd_assign rfl rfl) ?_
        refine al_nil ?_
        repeat with_reducible first | refine S1 ?_ | refine S2 ?_ | refine S3 ?_ | refine S4 ?_ | refine S5 ?_ | refine S6 ?_ | refine S7 ?_ | refine S8 ?_ | refine S9 rfl ?_ | refine SA ?_ | refine SB ?_ | refine SC ?_
        exact aret_1 [] _ rfl rfl rfl (by decide) (fun _ hi => absurd hi (Nat.not_lt_zero _)) (by intro _g; (repeat first | exact K0 | apply K1 rfl | apply K2 rfl rfl | apply K2 rfl (by simp) | apply K3 | exact L0 | apply L1 | exact V1 rfl | exact V2 rfl | exact V3 rfl rfl | exact V4 | exact V5 rfl | exact V3 rfl (by simp; omega) | exact V1 (by simp; omega) | exact V3 rfl (by simp) | exact V1 (by simp) | exact V6 rfl rfl (by first | rfl | simp) (by simp) rfl | apply V7 | apply V8 | apply V9); fail_if_success focus skip) ⟨false, rfl, rfl, by simp only [Bool.false_eq_true, false_iff]; intro hK; have h2 := hK.1 k (by omega); rw [hkn, cn, ← hkn] at h2; omega⟩
    obtain ⟨j, rfl⟩ : ∃ j, k = j + 1 := ⟨k - 1, by omega⟩
    obtain ⟨x, hx⟩ : ∃ x, l[j]? = some x := ⟨_, List.getElem?_eq_getElem (by omega)⟩
    obtain ⟨y, hy⟩ : ∃ x, l[j + 1]? = some x := ⟨_, List.getElem?_eq_getElem (by omega)⟩
    obtain ⟨c, hcc⟩ : ∃ x, cs[j]? = some x := ⟨_, List.getElem?_eq_getElem (by omega)⟩
    have r1 : (l.map Leg.row)[j]? = some [I x.long, I x.limit] := by rw [List.getElem?_map, hx]; rfl
    have r2 : (l.map Leg.row)[j + 1]? = some [I y.long, I y.limit] := by rw [List.getElem?_map, hy]; rfl
    have r3 : (cs.map fun z => [I z])[j]? = some [I c] := by rw [List.getElem?_map, hcc]; rfl
    have hcm := capL_mid hx hy hcc
    repeat with_reducible first | refine S1 ?_ | refine S2 ?_ | refine S3 ?_ | refine S4 ?_ | refine S5 ?_ | refine S6 ?_ | refine S7 ?_ | refine S8 ?_ | refine S9 rfl ?_ | refine SA ?_ | refine SB ?_ | refine SC ?_
    refine aw_region ?_
    refine RA rfl rfl (by decide) (rd_move rfl rfl) ?_
    first | refine RA rfl rfl (by decide) (rd_lss_t rfl rfl rfl (by omega)) ?_ | refine RA rfl rfl (by decide) (rd_lss_f rfl rfl rfl (by omega)) ?_ | refine RA rfl rfl (by decide) (rd_lss rfl rfl rfl) ?_
    refine RA rfl rfl (by decide) (rd_move rfl rfl) ?_
    first | (refine G1 rfl ?_; (refine RA rfl rfl (by decide) (rd_move rfl rfl) ?_)) | refine G2 rfl rfl (by decide) ?_
    first | (refine G1 rfl ?_; (first | refine RA rfl rfl (by decide) (rd_eql_t rfl rfl rfl (by omega)) ?_ | refine RA rfl rfl (by decide) (rd_eql_f rfl rfl rfl (by omega)) ?_ | refine RA rfl rfl (by decide) (rd_eql rfl rfl rfl) ?_)) | refine G2 rfl rfl (by decide) ?_
    first | (refine G1 rfl ?_; (refine RA rfl rfl (by decide) (rd_move rfl rfl) ?_)) | refine G2 rfl rfl (by decide) ?_
    first | (refine G1 rfl ?_; (refine RA rfl rfl (by decide) (rd_move rfl rfl) ?_)) | refine G2 rfl rfl (by decide) ?_
    first | (refine G1 rfl ?_; (refine RA rfl rfl (by decide) (rd_move rfl rfl) ?_)) | refine G2 rfl rfl (by decide) ?_
    first | (refine G1 rfl ?_; (first | refine RA rfl rfl (by decide) (rd_len rfl Te54 rfl) ?_ | refine RA rfl rfl (by decide) (rd_lenr rfl Te54 rfl) ?_)) | refine G2 rfl rfl (by decide) ?_
    first | (refine G1 rfl ?_; (first | refine RA rfl rfl (by decide) (rd_eql_t rfl rfl rfl (by omega)) ?_ | refine RA rfl rfl (by decide) (rd_eql_f rfl rfl rfl (by omega)) ?_ | refine RA rfl rfl (by decide) (rd_eql rfl rfl rfl) ?_)) | refine G2 rfl rfl (by decide) ?_
    first | (refine G1 rfl ?_; (first | refine RA rfl rfl (by decide) (rd_pick_t rfl rfl rfl) ?_ | refine RA rfl rfl (by decide) (rd_pick_f rfl rfl rfl) ?_)) | refine G2 rfl rfl (by decide) ?_
    first | (refine G1 rfl ?_; (refine RA rfl rfl (by decide) (rd_move rfl rfl) ?_)) | refine G2 rfl rfl (by decide) ?_
    first | (refine G1 rfl ?_; (refine RA rfl rfl (by decide) (rd_move rfl rfl) ?_)) | refine G2 rfl rfl (by decide) ?_
    first | (refine G1 rfl ?_; (first | refine RA rfl rfl (by decide) (rd_neq_t rfl rfl rfl (by omega)) ?_ | refine RA rfl rfl (by decide) (rd_neq_f rfl rfl rfl (by omega)) ?_ | refine RA rfl rfl (by decide) (rd_neq rfl rfl rfl) ?_)) | refine G2 rfl rfl (by decide) ?_
    first | (refine G1 rfl ?_; (first | refine RA rfl rfl (by decide) (rd_pick_t rfl rfl rfl) ?_ | refine RA rfl rfl (by decide) (rd_pick_f rfl rfl rfl) ?_)) | refine G2 rfl rfl (by decide) ?_
    first | refine RA rfl rfl (by decide) (rd_pick_t rfl rfl rfl) ?_ | refine RA rfl rfl (by decide) (rd_pick_f rfl rfl rfl) ?_
    refine al_nil ?_
    repeat with_reducible first | refine S1 ?_ | refine S2 ?_ | refine S3 ?_ | refine S4 ?_ | refine S5 ?_ | refine S6 ?_ | refine S7 ?_ | refine S8 ?_ | refine S9 rfl ?_ | refine SA ?_ | refine SB ?_ | refine SC ?_
    refine aw_cond_f rfl ?_
    repeat with_reducible first | refine S1 ?_ | refine S2 ?_ | refine S3 ?_ | refine S4 ?_ | refine S5 ?_ | refine S6 ?_ | refine S7 ?_ | refine S8 ?_ | refine S9 rfl ?_ | refine SA ?_ | refine SB ?_ | refine SC ?_
    repeat with_reducible first | refine S1 ?_ | refine S2 ?_ | refine S3 ?_ | refine S4 ?_ | refine S5 ?_ | refine S6 ?_ | refine S7 ?_ | refine S8 ?_ | refine S9 rfl ?_ | refine SA ?_ | refine SB ?_ | refine SC ?_
    refine aw_regionT [(0, none), (1, none), (2, none), (3, none), (4, none), (5, none), (6, none), (7, none), (8, none), (9, none), (10, none), (11, none), (12, none), (13, none), (14, none), (15, none), (16, none), (17, none), (18, none), (19, none), (20, none), (21, none), (22, none), (23, none), (24, none), (25, none), (26, none), (27, none), (28, none)] hMixed (by kernel_rfl) ?_
    refine RT rfl rfl rfl (by decide) (rd_move rfl rfl) ?_
    first | refine RT rfl rfl rfl (by decide) (rd_gtr_t rfl rfl rfl (by omega)) ?_ | refine RT rfl rfl rfl (by decide) (rd_gtr_f rfl rfl rfl (by omega)) ?_ | refine RT rfl rfl rfl (by decide) (rd_gtr rfl rfl rfl) ?_
    refine RT rfl rfl rfl (by decide) (rd_move rfl rfl) ?_
    first | refine at_gon rfl rfl rfl rfl rfl rfl (by decide) (rd_move rfl rfl) ?_ | refine at_skip rfl rfl rfl rfl rfl rfl rfl (by decide) ?_ | refine at_skipu rfl rfl rfl rfl rfl rfl (by decide) ?_
    first | refine at_gon rfl rfl rfl rfl rfl rfl (by decide) (rd_move rfl rfl) ?_ | refine at_skip rfl rfl rfl rfl rfl rfl rfl (by decide) ?_ | refine at_skipu rfl rfl rfl rfl rfl rfl (by decide) ?_
    first | refine at_gon rfl rfl rfl rfl rfl rfl (by decide) (rd_len rfl Te54 rfl) ?_ | refine at_gon rfl rfl rfl rfl rfl rfl (by decide) (rd_lenr rfl Te54 rfl) ?_ | refine at_skip rfl rfl rfl rfl rfl rfl rfl (by decide) ?_ | refine at_skipu rfl rfl rfl rfl rfl rfl (by decide) ?_
    first | refine at_gon rfl rfl rfl rfl rfl rfl (by decide) (rd_lss_t rfl rfl rfl (by omega)) ?_ | refine at_gon rfl rfl rfl rfl rfl rfl (by decide) (rd_lss_f rfl rfl rfl (by omega)) ?_ | refine at_gon rfl rfl rfl rfl rfl rfl (by decide) (rd_lss rfl rfl rfl) ?_ | refine at_skip rfl rfl rfl rfl rfl rfl rfl (by decide) ?_ | refine at_skipu rfl rfl rfl rfl rfl rfl (by decide) ?_
    first | refine RT rfl rfl rfl (by decide) (rd_pick_t rfl rfl rfl) ?_ | refine RT rfl rfl rfl (by decide) (rd_pick_f rfl rfl rfl) ?_
    refine RT rfl rfl rfl (by decide) (rd_move rfl rfl) ?_
    first | refine at_gon rfl rfl rfl rfl rfl rfl (by decide) (rd_move rfl rfl) ?_ | refine at_skip rfl rfl rfl rfl rfl rfl rfl (by decide) ?_ | refine at_skipu rfl rfl rfl rfl rfl rfl (by decide) ?_
    first | refine at_gon rfl rfl rfl rfl rfl rfl (by decide) (rd_move rfl rfl) ?_ | refine at_skip rfl rfl rfl rfl rfl rfl rfl (by decide) ?_ | refine at_skipu rfl rfl rfl rfl rfl rfl (by decide) ?_
    first | refine at_gon rfl rfl rfl rfl rfl rfl (by decide) (rd_move rfl rfl) ?_ | refine at_skip rfl rfl rfl rfl rfl rfl rfl (by decide) ?_ | refine at_skipu rfl rfl rfl rfl rfl rfl (by decide) ?_
    first | refine at_gon rfl rfl rfl rfl rfl rfl (by decide) (rd_subz (z := (j : Int)) rfl rfl rfl (by omega) (by omega)) ?_ | refine at_skip rfl rfl rfl rfl rfl rfl rfl (by decide) ?_ | refine at_skipu rfl rfl rfl rfl rfl rfl (by decide) ?_
    first | refine at_gon rfl rfl rfl rfl rfl rfl (by decide) (rd_index rfl Te22 rfl rfl rfl (by first | rfl | omega) (by omega)) ?_ | refine at_gon rfl rfl rfl rfl rfl rfl (by decide) (rd_indexq rfl Te22 rfl rfl (by first | rfl | omega) (by assumption) rfl) ?_ | refine at_skip rfl rfl rfl rfl rfl rfl rfl (by decide) ?_ | refine at_skipu rfl rfl rfl rfl rfl rfl (by decide) ?_
    first | refine at_gon rfl rfl rfl rfl rfl rfl (by decide) (rd_loadn1 rfl Tk3 rfl (by first | exact CB rfl | exact CQ | exact CA rfl (by first | assumption | (rw [Nat.zero_add]; assumption))) (by (try simp only [nm, putL, Nat.reduceAdd, cellsOf, cvOf]) <;> rfl)) ?_ | refine at_skip rfl rfl rfl rfl rfl rfl rfl (by decide) ?_ | refine at_skipu rfl rfl rfl rfl rfl rfl (by decide) ?_
    first | refine at_gon rfl rfl rfl rfl rfl rfl (by decide) (rd_move rfl rfl) ?_ | refine at_skip rfl rfl rfl rfl rfl rfl rfl (by decide) ?_ | refine at_skipu rfl rfl rfl rfl rfl rfl (by decide) ?_
    first | refine at_gon rfl rfl rfl rfl rfl rfl (by decide) (rd_move rfl rfl) ?_ | refine at_skip rfl rfl rfl rfl rfl rfl rfl (by decide) ?_ | refine at_skipu rfl rfl rfl rfl rfl rfl (by decide) ?_
    first | refine at_gon rfl rfl rfl rfl rfl rfl (by decide) (rd_subz (z := (j : Int)) rfl rfl rfl (by omega) (by omega)) ?_ | refine at_skip rfl rfl rfl rfl rfl rfl rfl (by decide) ?_ | refine at_skipu rfl rfl rfl rfl rfl rfl (by decide) ?_
    first | refine at_gon rfl rfl rfl rfl rfl rfl (by decide) (rd_index rfl Te54 rfl rfl rfl (by first | rfl | omega) (by omega)) ?_ | refine at_gon rfl rfl rfl rfl rfl rfl (by decide) (rd_indexq rfl Te54 rfl rfl (by first | rfl | omega) (by assumption) rfl) ?_ | refine at_skip rfl rfl rfl rfl rfl rfl rfl (by decide) ?_ | refine at_skipu rfl rfl rfl rfl rfl rfl (by decide) ?_
    first | refine at_gon rfl rfl rfl rfl rfl rfl (by decide) (rd_field rfl rfl Tf64_1) ?_ | refine at_gon rfl rfl rfl rfl rfl rfl (by decide) (rd_fieldq rfl rfl Tf64_1) ?_ | refine at_skip rfl rfl rfl rfl rfl rfl rfl (by decide) ?_ | refine at_skipu rfl rfl rfl rfl rfl rfl (by decide) ?_
    first | refine at_gon rfl rfl rfl rfl rfl rfl (by decide) (rd_loadn1 rfl Tk3 rfl (by first | exact CB rfl | exact CQ | exact CA rfl (by first | assumption | (rw [Nat.zero_add]; assumption))) (by (try simp only [nm, putL, Nat.reduceAdd, cellsOf, cvOf]) <;> rfl)) ?_ | refine at_skip rfl rfl rfl rfl rfl rfl rfl (by decide) ?_ | refine at_skipu rfl rfl rfl rfl rfl rfl (by decide) ?_
    first | refine at_gon rfl rfl rfl rfl rfl rfl (by decide) (rd_move rfl rfl) ?_ | refine at_skip rfl rfl rfl rfl rfl rfl rfl (by decide) ?_ | refine at_skipu rfl rfl rfl rfl rfl rfl (by decide) ?_
    first | refine at_gon rfl rfl rfl rfl rfl rfl (by decide) (rd_move rfl rfl) ?_ | refine at_skip rfl rfl rfl rfl rfl rfl rfl (by decide) ?_ | refine at_skipu rfl rfl rfl rfl rfl rfl (by decide) ?_
    first | refine at_gon rfl rfl rfl rfl rfl rfl (by decide) (rd_index rfl Te54 rfl rfl rfl (by first | rfl | omega) (by omega)) ?_ | refine at_gon rfl rfl rfl rfl rfl rfl (by decide) (rd_indexq rfl Te54 rfl rfl (by first | rfl | omega) (by assumption) rfl) ?_ | refine at_skip rfl rfl rfl rfl rfl rfl rfl (by decide) ?_ | refine at_skipu rfl rfl rfl rfl rfl rfl (by decide) ?_
    first | refine at_gon rfl rfl rfl rfl rfl rfl (by decide) (rd_field rfl rfl Tf64_1) ?_ | refine at_gon rfl rfl rfl rfl rfl rfl (by decide) (rd_fieldq rfl rfl Tf64_1) ?_ | refine at_skip rfl rfl rfl rfl rfl rfl rfl (by decide) ?_ | refine at_skipu rfl rfl rfl rfl rfl rfl (by decide) ?_
    first | refine at_gon rfl rfl rfl rfl rfl rfl (by decide) (rd_loadn1 rfl Tk3 rfl (by first | exact CB rfl | exact CQ | exact CA rfl (by first | assumption | (rw [Nat.zero_add]; assumption))) (by (try simp only [nm, putL, Nat.reduceAdd, cellsOf, cvOf]) <;> rfl)) ?_ | refine at_skip rfl rfl rfl rfl rfl rfl rfl (by decide) ?_ | refine at_skipu rfl rfl rfl rfl rfl rfl (by decide) ?_
    first | refine at_gon rfl rfl rfl rfl rfl rfl (by decide) (rd_min3 rfl rfl rfl rfl) ?_ | refine at_skip rfl rfl rfl rfl rfl rfl rfl (by decide) ?_ | refine at_skipu rfl rfl rfl rfl rfl rfl (by decide) ?_
    first | refine at_gon rfl rfl rfl rfl rfl rfl (by decide) (rd_gtr_t rfl rfl rfl (by omega)) ?_ | refine at_gon rfl rfl rfl rfl rfl rfl (by decide) (rd_gtr_f rfl rfl rfl (by omega)) ?_ | refine at_gon rfl rfl rfl rfl rfl rfl (by decide) (rd_gtr rfl rfl rfl) ?_ | refine at_skip rfl rfl rfl rfl rfl rfl rfl (by decide) ?_ | refine at_skipu rfl rfl rfl rfl rfl rfl (by decide) ?_
    first | refine RT rfl rfl rfl (by decide) (rd_pick_t rfl rfl rfl) ?_ | refine RT rfl rfl rfl (by decide) (rd_pick_f rfl rfl rfl) ?_
    refine at_nil ?_
    repeat with_reducible first | refine S1 ?_ | refine S2 ?_ | refine S3 ?_ | refine S4 ?_ | refine S5 ?_ | refine S6 ?_ | refine S7 ?_ | refine S8 ?_ | refine S9 rfl ?_ | refine SA ?_ | refine SB ?_ | refine SC ?_
    refine aw_if rfl (fun hgt => ?_) (fun hle => ?_)
    · repeat with_reducible first | refine S1 ?_ | refine S2 ?_ | refine S3 ?_ | refine S4 ?_ | refine S5 ?_ | refine S6 ?_ | refine S7 ?_ | refine S8 ?_ | refine S9 rfl ?_ | refine SA ?_ | refine SB ?_ | refine SC ?_
      refine aw_region ?_
      refine RA rfl rfl (by decide) (rd_assign rfl rfl) ?_
      refine al_nil ?_
      repeat with_reducible first | refine S1 ?_ | refine S2 ?_ | refine S3 ?_ | refine S4 ?_ | refine S5 ?_ | refine S6 ?_ | refine S7 ?_ | refine S8 ?_ | refine S9 rfl ?_ | refine SA ?_ | refine SB ?_ | refine SC ?_
      exact aret_1 [] _ rfl rfl rfl (by decide) (fun _ hi => absurd hi (Nat.not_lt_zero _)) (by intro _g; (repeat first | exact K0 | apply K1 rfl | apply K2 rfl rfl | apply K2 rfl (by simp) | apply K3 | exact L0 | apply L1 | exact V1 rfl | exact V2 rfl | exact V3 rfl rfl | exact V4 | exact V5 rfl | exact V3 rfl (by simp; omega) | exact V1 (by simp; omega) | exact V3 rfl (by simp) | exact V1 (by simp) | exact V6 rfl rfl (by first | rfl | simp) (by simp) rfl | apply V7 | apply V8 | apply V9); fail_if_success focus skip) ⟨false, rfl, rfl, by simp only [Bool.false_eq_true, false_iff]; intro hK; have h2 := hK.1 (j + 1) (by omega); rw [hcm] at h2; omega⟩
    · repeat with_reducible first | refine S1 ?_ | refine S2 ?_ | refine S3 ?_ | refine S4 ?_ | refine S5 ?_ | refine S6 ?_ | refine S7 ?_ | refine S8 ?_ | refine S9 rfl ?_ | refine SA ?_ | refine SB ?_ | refine SC ?_
      repeat with_reducible first | refine S1 ?_ | refine S2 ?_ | refine S3 ?_ | refine S4 ?_ | refine S5 ?_ | refine S6 ?_ | refine S7 ?_ | refine S8 ?_ | refine S9 rfl ?_ | refine SA ?_ | refine SB ?_ | refine SC ?_
      refine aw_region ?_
      first | refine RA rfl rfl (by decide) (rd_addn rfl rfl rfl (by omega)) ?_ | refine RA rfl rfl (by decide) (rd_add rfl rfl rfl) ?_
      refine RA rfl rfl (by decide) (rd_move rfl rfl) ?_
      refine al_nil ?_
      repeat with_reducible first | refine S1 ?_ | refine S2 ?_ | refine S3 ?_ | refine S4 ?_ | refine S5 ?_ | refine S6 ?_ | refine S7 ?_ | refine S8 ?_ | refine S9 rfl ?_ | refine SA ?_ | refine SB ?_ | refine SC ?_
      refine wk_of [] (fun _ => [(0, .c (legs_r v l)), (1, .c (ints_r w cs)), (2, .c (ints_r vq q)), (3, .c (I ch)), (13, .c (ints_r vq q)), (14, .c (I (q.map fun z => [I z]).length)), (15, .c (I ((j + 1) + 1 : Nat)))]) (fun _ => _) (by decide) (by rw [hE]; first | exact (fun _ hi => absurd hi (Nat.not_lt_zero _)) | exact (fun i hi => by (have hi : i < 1 := hi); (have h0 : i = 0 := (by omega)); (subst h0); rfl)) (by intro _g; (repeat first | exact W0 | apply W1 rfl | exact L0 | apply L1 | exact V1 rfl | exact V2 rfl | exact V3 rfl rfl | exact V4 | exact V5 rfl | exact V3 rfl (by simp; omega) | exact V1 (by simp; omega) | exact V3 rfl (by simp) | exact V1 (by simp) | exact V6 rfl rfl (by first | rfl | simp) (by simp) rfl | apply V7 | apply V8 | apply V9 | refine V1 ?_ | refine V3 rfl ?_); fail_if_success focus skip) (by intro _g; (repeat first | exact K0 | apply K1 rfl | apply K2 rfl rfl | apply K2 rfl (by simp) | apply K3 | exact L0 | apply L1 | exact V1 rfl | exact V2 rfl | exact V3 rfl rfl | exact V4 | exact V5 rfl | exact V3 rfl (by simp; omega) | exact V1 (by simp; omega) | exact V3 rfl (by simp) | exact V1 (by simp) | exact V6 rfl rfl (by first | rfl | simp) (by simp) rfl | apply V7 | apply V8 | apply V9); fail_if_success focus skip) (fun _ => ?_)
      exact ⟨m - 1, by omega, (j + 1) + 1, by omega, fun i hi => by
        by_cases hik : i = (j + 1)
        · subst hik; rw [hcm]; omega
        · exact hfst i (by omega), rfl, rfl⟩
  obtain rfl : k = l.length + 1 := by omega
  clear hk hge
  have hfst : ∀ i, i ≤ l.length → 0 ≤ q.getD i 0 ∧ q.getD i 0 ≤ capL l cs i := fun i hi => hfst i (by omega)
  repeat with_reducible first | refine S1 ?_ | refine S2 ?_ | refine S3 ?_ | refine S4 ?_ | refine S5 ?_ | refine S6 ?_ | refine S7 ?_ | refine S8 ?_ | refine S9 rfl ?_ | refine SA ?_ | refine SB ?_ | refine SC ?_
  repeat with_reducible first | refine S1 ?_ | refine S2 ?_ | refine S3 ?_ | refine S4 ?_ | refine S5 ?_ | refine S6 ?_ | refine S7 ?_ | refine S8 ?_ | refine S9 rfl ?_ | refine SA ?_ | refine SB ?_ | refine SC ?_
  refine aw_region ?_
  refine RA rfl rfl (by decide) (rd_move rfl rfl) ?_
  first | refine RA rfl rfl (by decide) (rd_len rfl Te54 rfl) ?_ | refine RA rfl rfl (by decide) (rd_lenr rfl Te54 rfl) ?_
  refine RA rfl rfl (by decide) (rd_move rfl rfl) ?_
  refine al_nil ?_
  repeat with_reducible first | refine S1 ?_ | refine S2 ?_ | refine S3 ?_ | refine S4 ?_ | refine S5 ?_ | refine S6 ?_ | refine S7 ?_ | refine S8 ?_ | refine S9 rfl ?_ | refine SA ?_ | refine SB ?_ | refine SC ?_
  refine aw_loopw (fun m F H => ∃ (k : Nat), m + k = l.length ∧ (∀ i, i < k → max (q.getD i 0 * q.getD i 0 - q.getD (i + 1) 0 * q.getD (i + 1) 0) (-(q.getD i 0 * q.getD i 0 - q.getD (i + 1) 0 * q.getD (i + 1) 0)) ≤ disL l ch i) ∧ F = [(2, .c (ints_r vq q)), (3, .c (I ch)), (66, .c (legs_r v l)), (67, .c (I (l.map Leg.row).length)), (68, .c (I k))] ∧ H = []) ?_ ?_
  · refine wk_of [] (fun _ => [(2, .c (ints_r vq q)), (3, .c (I ch)), (66, .c (legs_r v l)), (67, .c (I (l.map Leg.row).length)), (68, .c (I (0 : Nat)))]) (fun _ => _) (by decide) (by rw [hE]; first | exact (fun _ hi => absurd hi (Nat.not_lt_zero _)) | exact (fun i hi => by (have hi : i < 1 := hi); (have h0 : i = 0 := (by omega)); (subst h0); rfl)) (by intro _g; (repeat first | exact W0 | apply W1 rfl | exact L0 | apply L1 | exact V1 rfl | exact V2 rfl | exact V3 rfl rfl | exact V4 | exact V5 rfl | exact V3 rfl (by simp; omega) | exact V1 (by simp; omega) | exact V3 rfl (by simp) | exact V1 (by simp) | exact V6 rfl rfl (by first | rfl | simp) (by simp) rfl | apply V7 | apply V8 | apply V9 | refine V1 ?_ | refine V3 rfl ?_); fail_if_success focus skip) (by intro _g; (repeat first | exact K0 | apply K1 rfl | apply K2 rfl rfl | apply K2 rfl (by simp) | apply K3 | exact L0 | apply L1 | exact V1 rfl | exact V2 rfl | exact V3 rfl rfl | exact V4 | exact V5 rfl | exact V3 rfl (by simp; omega) | exact V1 (by simp; omega) | exact V3 rfl (by simp) | exact V1 (by simp) | exact V6 rfl rfl (by first | rfl | simp) (by simp) rfl | apply V7 | apply V8 | apply V9); fail_if_success focus skip) (fun _ => ?_)
    exact ⟨l.length, 0, by omega, fun i hi => absurd hi (Nat.not_lt_zero _), rfl, rfl⟩
  rintro m F H ⟨k, hk, hsec, rfl, rfl⟩
  repeat with_reducible first | refine S1 ?_ | refine S2 ?_ | refine S3 ?_ | refine S4 ?_ | refine S5 ?_ | refine S6 ?_ | refine S7 ?_ | refine S8 ?_ | refine S9 rfl ?_ | refine SA ?_ | refine SB ?_ | refine SC ?_
  refine aw_region ?_
  first | refine RA rfl rfl (by decide) (rd_lss_t rfl rfl rfl (by omega)) ?_ | refine RA rfl rfl (by decide) (rd_lss_f rfl rfl rfl (by omega)) ?_ | refine RA rfl rfl (by decide) (rd_lss rfl rfl rfl) ?_
  refine al_nil ?_
  repeat with_reducible first | refine S1 ?_ | refine S2 ?_ | refine S3 ?_ | refine S4 ?_ | refine S5 ?_ | refine S6 ?_ | refine S7 ?_ | refine S8 ?_ | refine S9 rfl ?_ | refine SA ?_ | refine SB ?_ | refine SC ?_
  refine aw_if rfl (fun hlt => ?_) (fun hge => ?_)
  · obtain ⟨x, hx⟩ : ∃ x, l[k]? = some x := ⟨_, List.getElem?_eq_getElem (by omega)⟩
    have hxg := hr.legs x (List.mem_of_getElem? hx)
    have hd := dis_b hc hxg
    obtain ⟨hx1, hx2, hx3, hx4⟩ := hxg
    have hdl := disL_of (ch := ch) hx
    have r1 : (l.map Leg.row)[k]? = some [I x.long, I x.limit] := by rw [List.getElem?_map, hx]; rfl
    have ca := hfst k (by omega)
    have cb := hfst (k + 1) (by omega)
    have da := (hr.cap k).2
    have db := (hr.cap (k + 1)).2
    have ga := get_getD (q := q) (k := k) (by omega)
    have gb := get_getD (q := q) (k := k + 1) (by omega)
    obtain ⟨a, ha⟩ : ∃ a, q.getD k 0 = a := ⟨_, rfl⟩
    obtain ⟨b, hb⟩ : ∃ a, q.getD (k + 1) 0 = a := ⟨_, rfl⟩
    rw [ha] at ca ga; rw [hb] at cb gb
    have r4 : (q.map fun z => [I z])[k]? = some [I a] := by rw [List.getElem?_map, ga]; rfl
    have r5 : (q.map fun z => [I z])[k + 1]? = some [I b] := by rw [List.getElem?_map, gb]; rfl
    have sa := sq_b (a := a) (by omega) (by omega)
    have sb := sq_b (a := b) (by omega) (by omega)
    repeat with_reducible first | refine S1 ?_ | refine S2 ?_ | refine S3 ?_ | refine S4 ?_ | refine S5 ?_ | refine S6 ?_ | refine S7 ?_ | refine S8 ?_ | refine S9 rfl ?_ | refine SA ?_ | refine SB ?_ | refine SC ?_
    refine aw_region ?_
    refine RA rfl rfl (by decide) (rd_move rfl rfl) ?_
    first | refine RA rfl rfl (by decide) (rd_index rfl Te54 rfl rfl rfl (by first | rfl | omega) (by omega)) ?_ | refine RA rfl rfl (by decide) (rd_indexq rfl Te54 rfl rfl (by first | rfl | omega) (by assumption) rfl) ?_
    refine RA rfl rfl (by decide) (rd_loadn rfl Tk64 rfl (by first | exact CB rfl | exact CQ | exact CA rfl (by first | assumption | (rw [Nat.zero_add]; assumption))) (by (try simp only [nm, putL, Nat.reduceAdd, cellsOf, cvOf]) <;> rfl) (by simp)) ?_
    refine EA rfl (ef_allocn rfl rfl (by decide) Tz64 rfl rfl (by (try simp only [nm, putL, Nat.reduceAdd, cellsOf, cvOf]) <;> rfl) (by (try simp only [nm, putL, Nat.reduceAdd, cellsOf, cvOf]) <;> rfl)) ?_
    refine RA rfl rfl (by decide) (rd_assign rfl rfl) ?_
    first | refine EA rfl (ef_storen rfl rfl rfl rfl rfl Ts64 rfl (by simp) rfl (by (try simp only [nm, putL, Nat.reduceAdd, cellsOf, cvOf]) <;> rfl) (by (try simp only [nm, putL, Nat.reduceAdd, cellsOf, cvOf]) <;> rfl)) ?_ | refine EA rfl (ef_storern rfl rfl rfl rfl (by first | assumption | (rw [Nat.zero_add]; assumption)) rfl rfl Ts64 rfl (by simp) rfl (by (try simp only [nm, putL, Nat.reduceAdd, cellsOf, cvOf]) <;> rfl) rfl) ?_
    refine al_nil ?_
    repeat with_reducible first | refine S1 ?_ | refine S2 ?_ | refine S3 ?_ | refine S4 ?_ | refine S5 ?_ | refine S6 ?_ | refine S7 ?_ | refine S8 ?_ | refine S9 rfl ?_ | refine SA ?_ | refine SB ?_ | refine SC ?_
    repeat with_reducible first | refine S1 ?_ | refine S2 ?_ | refine S3 ?_ | refine S4 ?_ | refine S5 ?_ | refine S6 ?_ | refine S7 ?_ | refine S8 ?_ | refine S9 rfl ?_ | refine SA ?_ | refine SB ?_ | refine SC ?_
    refine aw_regionT [(0, none), (1, none), (2, none), (3, none), (4, none), (5, none), (6, none), (7, none), (8, none), (9, none), (10, none), (11, none), (12, none), (13, none), (14, none), (15, none), (16, none), (17, none), (18, none), (19, none), (20, none), (22, none), (23, none), (24, none), (25, none), (26, none), (21, some [22, 23, 24, 25, 26]), (27, none)] hMixed (by kernel_rfl) ?_
    refine RT rfl rfl rfl (by decide) (rd_move rfl rfl) ?_
    refine RT rfl rfl rfl (by decide) (rd_move rfl rfl) ?_
    first | refine RT rfl rfl rfl (by decide) (rd_index rfl Te22 rfl rfl rfl (by first | rfl | omega) (by omega)) ?_ | refine RT rfl rfl rfl (by decide) (rd_indexq rfl Te22 rfl rfl (by first | rfl | omega) (by assumption) rfl) ?_
    refine RT rfl rfl rfl (by decide) (rd_loadn1 rfl Tk3 rfl (by first | exact CB rfl | exact CQ | exact CA rfl (by first | assumption | (rw [Nat.zero_add]; assumption))) (by (try simp only [nm, putL, Nat.reduceAdd, cellsOf, cvOf]) <;> rfl)) ?_
    refine RT rfl rfl rfl (by decide) (rd_move rfl rfl) ?_
    refine RT rfl rfl rfl (by decide) (rd_move rfl rfl) ?_
    first | refine RT rfl rfl rfl (by decide) (rd_index rfl Te22 rfl rfl rfl (by first | rfl | omega) (by omega)) ?_ | refine RT rfl rfl rfl (by decide) (rd_indexq rfl Te22 rfl rfl (by first | rfl | omega) (by assumption) rfl) ?_
    refine RT rfl rfl rfl (by decide) (rd_loadn1 rfl Tk3 rfl (by first | exact CB rfl | exact CQ | exact CA rfl (by first | assumption | (rw [Nat.zero_add]; assumption))) (by (try simp only [nm, putL, Nat.reduceAdd, cellsOf, cvOf]) <;> rfl)) ?_
    first | refine RT rfl rfl rfl (by decide) (rd_muln rfl rfl rfl (by omega)) ?_ | refine RT rfl rfl rfl (by decide) (rd_mul rfl rfl rfl) ?_
    refine RT rfl rfl rfl (by decide) (rd_move rfl rfl) ?_
    refine RT rfl rfl rfl (by decide) (rd_move rfl rfl) ?_
    refine RT rfl rfl rfl (by decide) (rd_addz (z := ((k + 1 : Nat) : Int)) rfl rfl rfl (by omega) (by omega)) ?_
    first | refine RT rfl rfl rfl (by decide) (rd_index rfl Te22 rfl rfl rfl (by first | rfl | omega) (by omega)) ?_ | refine RT rfl rfl rfl (by decide) (rd_indexq rfl Te22 rfl rfl (by first | rfl | omega) (by assumption) rfl) ?_
    refine RT rfl rfl rfl (by decide) (rd_loadn1 rfl Tk3 rfl (by first | exact CB rfl | exact CQ | exact CA rfl (by first | assumption | (rw [Nat.zero_add]; assumption))) (by (try simp only [nm, putL, Nat.reduceAdd, cellsOf, cvOf]) <;> rfl)) ?_
    refine RT rfl rfl rfl (by decide) (rd_move rfl rfl) ?_
    refine RT rfl rfl rfl (by decide) (rd_move rfl rfl) ?_
    refine RT rfl rfl rfl (by decide) (rd_addz (z := ((k + 1 : Nat) : Int)) rfl rfl rfl (by omega) (by omega)) ?_
    first | refine RT rfl rfl rfl (by decide) (rd_index rfl Te22 rfl rfl rfl (by first | rfl | omega) (by omega)) ?_ | refine RT rfl rfl rfl (by decide) (rd_indexq rfl Te22 rfl rfl (by first | rfl | omega) (by assumption) rfl) ?_
    refine RT rfl rfl rfl (by decide) (rd_loadn1 rfl Tk3 rfl (by first | exact CB rfl | exact CQ | exact CA rfl (by first | assumption | (rw [Nat.zero_add]; assumption))) (by (try simp only [nm, putL, Nat.reduceAdd, cellsOf, cvOf]) <;> rfl)) ?_
    first | refine RT rfl rfl rfl (by decide) (rd_muln rfl rfl rfl (by omega)) ?_ | refine RT rfl rfl rfl (by decide) (rd_mul rfl rfl rfl) ?_
    first | refine RT rfl rfl rfl (by decide) (rd_subn rfl rfl rfl (by omega)) ?_ | refine RT rfl rfl rfl (by decide) (rd_sub rfl rfl rfl) ?_
    refine RT rfl rfl rfl (by decide) (rd_move rfl rfl) ?_
    first | refine RT rfl rfl rfl (by decide) (rd_muln rfl rfl rfl (by omega)) ?_ | refine RT rfl rfl rfl (by decide) (rd_mul rfl rfl rfl) ?_
    first | refine RT rfl rfl rfl (by decide) (rd_field rfl rfl Tf64_0) ?_ | refine RT rfl rfl rfl (by decide) (rd_fieldq rfl rfl Tf64_0) ?_
    refine RT rfl rfl rfl (by decide) (rd_loadn1 rfl Tk3 rfl (by first | exact CB rfl | exact CQ | exact CA rfl (by first | assumption | (rw [Nat.zero_add]; assumption))) (by (try simp only [nm, putL, Nat.reduceAdd, cellsOf, cvOf]) <;> rfl)) ?_
    first | refine RT rfl rfl rfl (by decide) (rd_muln rfl rfl rfl (by omega)) ?_ | refine RT rfl rfl rfl (by decide) (rd_mul rfl rfl rfl) ?_
    first | refine at_ef rfl rfl (ef_call0 false (fun _ => abs1_a (a * a - b * b) (by omega)) rfl .fn rfl (by decide) Tc108 rfl (by intro _g; (repeat first | exact K0 | apply K1 rfl | apply K2 rfl rfl | apply K2 rfl (by simp) | apply K3 | exact L0 | apply L1 | exact V1 rfl | exact V2 rfl | exact V3 rfl rfl | exact V4 | exact V5 rfl | exact V3 rfl (by simp; omega) | exact V1 (by simp; omega) | exact V3 rfl (by simp) | exact V1 (by simp) | exact V6 rfl rfl (by first | rfl | simp) (by simp) rfl | apply V7 | apply V8 | apply V9); fail_if_success focus skip) (by simp)) ?_ | refine at_ef rfl rfl (ef_call0 false (fun _ => abs2_a (a * a - b * b) (by omega)) rfl .fn rfl (by decide) Tc112 rfl (by intro _g; (repeat first | exact K0 | apply K1 rfl | apply K2 rfl rfl | apply K2 rfl (by simp) | apply K3 | exact L0 | apply L1 | exact V1 rfl | exact V2 rfl | exact V3 rfl rfl | exact V4 | exact V5 rfl | exact V3 rfl (by simp; omega) | exact V1 (by simp; omega) | exact V3 rfl (by simp) | exact V1 (by simp) | exact V6 rfl rfl (by first | rfl | simp) (by simp) rfl | apply V7 | apply V8 | apply V9); fail_if_success focus skip) (by simp)) ?_
    rintro _ _ ⟨_, _, _, ⟨rfl, rfl⟩, hF, hH⟩
    (try simp only [nsl, Nat.reduceAdd, Nat.reduceLT, Nat.reduceSub] at hF); (try simp only [nsl, Nat.reduceAdd, Nat.reduceLT, Nat.reduceSub] at hH); subst hF; subst hH
    refine ⟨ag_cons (by first | exact ag_rd rfl rfl rfl (rd_move rfl rfl) rfl) (ag_cons (by first | exact ag_rd rfl rfl rfl (rd_muln rfl rfl rfl (by omega)) rfl | exact ag_rd rfl rfl rfl (rd_mul rfl rfl rfl) rfl) (ag_cons (by first | exact ag_rd rfl rfl rfl (rd_field rfl rfl Tf64_0) rfl | exact ag_rd rfl rfl rfl (rd_fieldq rfl rfl Tf64_0) rfl) (ag_cons (by first | exact ag_rd rfl rfl rfl (rd_loadn1 rfl Tk3 rfl (by first | exact CB rfl | exact CQ | exact CA rfl (by first | assumption | (rw [Nat.zero_add]; assumption))) (by (try simp only [nm, putL, Nat.reduceAdd, cellsOf, cvOf]) <;> rfl)) rfl) (ag_cons (by first | exact ag_rd rfl rfl rfl (rd_muln rfl rfl rfl (by omega)) rfl | exact ag_rd rfl rfl rfl (rd_mul rfl rfl rfl) rfl) (ag_none))))), ?_⟩
    first | refine RT rfl rfl rfl (by decide) (rd_gtr_t rfl rfl rfl (by omega)) ?_ | refine RT rfl rfl rfl (by decide) (rd_gtr_f rfl rfl rfl (by omega)) ?_ | refine RT rfl rfl rfl (by decide) (rd_gtr rfl rfl rfl) ?_
    refine at_nil ?_
    repeat with_reducible first | refine S1 ?_ | refine S2 ?_ | refine S3 ?_ | refine S4 ?_ | refine S5 ?_ | refine S6 ?_ | refine S7 ?_ | refine S8 ?_ | refine S9 rfl ?_ | refine SA ?_ | refine SB ?_ | refine SC ?_
    refine aw_if rfl (fun hgt => ?_) (fun hle => ?_)
    · repeat with_reducible first | refine S1 ?_ | refine S2 ?_ | refine S3 ?_ | refine S4 ?_ | refine S5 ?_ | refine S6 ?_ | refine S7 ?_ | refine S8 ?_ | refine S9 rfl ?_ | refine SA ?_ | refine SB ?_ | refine SC ?_
      refine aw_region ?_
      refine RA rfl rfl (by decide) (rd_assign rfl rfl) ?_
      refine al_nil ?_
      repeat with_reducible first | refine S1 ?_ | refine S2 ?_ | refine S3 ?_ | refine S4 ?_ | refine S5 ?_ | refine S6 ?_ | refine S7 ?_ | refine S8 ?_ | refine S9 rfl ?_ | refine SA ?_ | refine SB ?_ | refine SC ?_
      refine aret_1 [] _ rfl rfl rfl (by decide) (fun _ hi => absurd hi (Nat.not_lt_zero _)) (by intro _g; (repeat first | exact K0 | apply K1 rfl | apply K2 rfl rfl | apply K2 rfl (by simp) | apply K3 | exact L0 | apply L1 | exact V1 rfl | exact V2 rfl | exact V3 rfl rfl | exact V4 | exact V5 rfl | exact V3 rfl (by simp; omega) | exact V1 (by simp; omega) | exact V3 rfl (by simp) | exact V1 (by simp) | exact V6 rfl rfl (by first | rfl | simp) (by simp) rfl | apply V7 | apply V8 | apply V9); fail_if_success focus skip) ⟨false, rfl, rfl, by simp only [Bool.false_eq_true, false_iff]; intro hK; have h2 := hK.2 k (by omega); rw [ha, hb, hdl] at h2; exact absurd hgt (Int.not_lt.2 h2)⟩
    · repeat with_reducible first | refine S1 ?_ | refine S2 ?_ | refine S3 ?_ | refine S4 ?_ | refine S5 ?_ | refine S6 ?_ | refine S7 ?_ | refine S8 ?_ | refine S9 rfl ?_ | refine SA ?_ | refine SB ?_ | refine SC ?_
      repeat with_reducible first | refine S1 ?_ | refine S2 ?_ | refine S3 ?_ | refine S4 ?_ | refine S5 ?_ | refine S6 ?_ | refine S7 ?_ | refine S8 ?_ | refine S9 rfl ?_ | refine SA ?_ | refine SB ?_ | refine SC ?_
      refine aw_region ?_
      first | refine RA rfl rfl (by decide) (rd_addn rfl rfl rfl (by omega)) ?_ | refine RA rfl rfl (by decide) (rd_add rfl rfl rfl) ?_
      refine RA rfl rfl (by decide) (rd_move rfl rfl) ?_
      refine al_nil ?_
      repeat with_reducible first | refine S1 ?_ | refine S2 ?_ | refine S3 ?_ | refine S4 ?_ | refine S5 ?_ | refine S6 ?_ | refine S7 ?_ | refine S8 ?_ | refine S9 rfl ?_ | refine SA ?_ | refine SB ?_ | refine SC ?_
      refine wk_of [] (fun _ => [(2, .c (ints_r vq q)), (3, .c (I ch)), (66, .c (legs_r v l)), (67, .c (I (l.map Leg.row).length)), (68, .c (I (k + 1 : Nat)))]) (fun _ => _) (by decide) (by rw [hE]; first | exact (fun _ hi => absurd hi (Nat.not_lt_zero _)) | exact (fun i hi => by (have hi : i < 1 := hi); (have h0 : i = 0 := (by omega)); (subst h0); rfl)) (by intro _g; (repeat first | exact W0 | apply W1 rfl | exact L0 | apply L1 | exact V1 rfl | exact V2 rfl | exact V3 rfl rfl | exact V4 | exact V5 rfl | exact V3 rfl (by simp; omega) | exact V1 (by simp; omega) | exact V3 rfl (by simp) | exact V1 (by simp) | exact V6 rfl rfl (by first | rfl | simp) (by simp) rfl | apply V7 | apply V8 | apply V9 | refine V1 ?_ | refine V3 rfl ?_); fail_if_success focus skip) (by intro _g; (repeat first | exact K0 | apply K1 rfl | apply K2 rfl rfl | apply K2 rfl (by simp) | apply K3 | exact L0 | apply L1 | exact V1 rfl | exact V2 rfl | exact V3 rfl rfl | exact V4 | exact V5 rfl | exact V3 rfl (by simp; omega) | exact V1 (by simp; omega) | exact V3 rfl (by simp) | exact V1 (by simp) | exact V6 rfl rfl (by first | rfl | simp) (by simp) rfl | apply V7 | apply V8 | apply V9); fail_if_success focus skip) (fun _ => ?_)
      refine ⟨m - 1, by omega, k + 1, by omega, fun i hi => ?_, rfl, rfl⟩
      by_cases hik : i = k
      · subst hik; rw [ha, hb, hdl]; exact Int.not_lt.1 hle
      · exact hsec i (by omega)
  obtain rfl : k = l.length := by omega
  repeat with_reducible first | refine S1 ?_ | refine S2 ?_ | refine S3 ?_ | refine S4 ?_ | refine S5 ?_ | refine S6 ?_ | refine S7 ?_ | refine S8 ?_ | refine S9 rfl ?_ | refine SA ?_ | refine SB ?_ | refine SC ?_
  refine aw_region ?_
  refine RA rfl rfl (by decide) (rd_assign rfl rfl) ?_
  refine al_nil ?_
  repeat with_reducible first | refine S1 ?_ | refine S2 ?_ | refine S3 ?_ | refine S4 ?_ | refine S5 ?_ | refine S6 ?_ | refine S7 ?_ | refine S8 ?_ | refine S9 rfl ?_ | refine SA ?_ | refine SB ?_ | refine SC ?_
  exact aret_1 [] _ rfl rfl rfl (by decide) (fun _ hi => absurd hi (Nat.not_lt_zero _)) (by intro _g; (repeat first | exact K0 | apply K1 rfl | apply K2 rfl rfl | apply K2 rfl (by simp) | apply K3 | exact L0 | apply L1 | exact V1 rfl | exact V2 rfl | exact V3 rfl rfl | exact V4 | exact V5 rfl | exact V3 rfl (by simp; omega) | exact V1 (by simp; omega) | exact V3 rfl (by simp) | exact V1 (by simp) | exact V6 rfl rfl (by first | rfl | simp) (by simp) rfl | apply V7 | apply V8 | apply V9); fail_if_success focus skip) ⟨true, rfl, rfl, by simp only [true_iff]; exact ⟨hfst, hsec⟩⟩
end Go.Proofs.Ytpbedckdnoogpaa
