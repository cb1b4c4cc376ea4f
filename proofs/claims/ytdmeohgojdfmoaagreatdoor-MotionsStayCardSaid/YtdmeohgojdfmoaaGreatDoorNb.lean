/- Speeds, Kept and Slow, of the program and of its document, and the stream's speeds, by value. -/
import Derived.Test.YtdmeohgojdfmoaaGreatDoorNa
import Derived.Test.YtdmeohgojdfmoaaGreatDoorMa
set_option linter.unusedSimpArgs false
set_option linter.unusedVariables false
namespace Go.Proofs.YtdmeohgojdfmoaaGreatDoor
open Go Go.RowKit
set_option maxRecDepth 100000
theorem speedsx_a (l : List Leg) (cs : List Int) (ch : Int) (v w : Value) (hl : l.length ≤ 1000000) (hcl : cs.length ≤ 1000000) : ACalls Tryz.prog 24 [.c (legs_r v l), .c (ints_r w cs), .c (I ch)] [] fun u H => ∃ v', u = .t [.c (ints_r v' (if faultL l cs ch = 0 then speedsS l cs ch else [])), .c (I (faultL l cs ch))] ∧ H = [] := by
  refine acalls_of (N := 20) Tryz.func24 rfl rfl (by simp) fun E hE => ?_
  refine WA ?_
  refine WR ?_
  refine al_ef rfl (ef_call0 false (fun _ => fault1_a l cs ch v w (by omega) (by omega)) rfl .fn rfl (by decide) (by kernel_rfl) rfl (fun _ => C0 rfl) (by simp)) ?_
  rintro _ _ ⟨_, _, _, ⟨rfl, rfl⟩, hF, hH⟩
  (try simp only [nsl, Nat.reduceAdd, Nat.reduceLT, Nat.reduceSub] at hF); (try simp only [nsl, Nat.reduceAdd, Nat.reduceLT, Nat.reduceSub] at hH); subst hF; subst hH
  refine WE ?_
  refine WA ?_
  refine aw_if rfl (fun hne => ?_) (fun heq => ?_)
  · refine WA ?_
    exact aret_2 [] _ rfl rfl rfl rfl rfl (by decide) (ZNK rfl) (fun _ => .nil) ⟨_, by rw [if_neg hne]; rfl, rfl⟩
  have h0 : faultL l cs ch = 0 := by omega
  obtain ⟨hr, hc⟩ := faultL_ok h0
  refine ZZ ?_
  refine WR ?_
  refine al_ef rfl (ef_call0 false (fun _ => speeds_a l cs ch v w hr hc) rfl .fn rfl (by decide) (by kernel_rfl) rfl (fun _ => C0 rfl) (by simp)) ?_
  rintro _ _ ⟨_, _, _, ⟨vv, rfl, rfl⟩, hF, hH⟩
  (try simp only [nsl, Nat.reduceAdd, Nat.reduceLT, Nat.reduceSub] at hF); (try simp only [nsl, Nat.reduceAdd, Nat.reduceLT, Nat.reduceSub] at hH); subst hF; subst hH
  refine WE ?_
  exact aret_2 [] _ rfl rfl rfl rfl rfl (by decide) (ZNK rfl) (fun _ => .nil) ⟨_, by rw [if_pos h0, h0], rfl⟩
theorem speedsx_o (l : List Leg) (cs : List Int) (ch : Int) (v w : Value) (hl : l.length ≤ 1000000) (hcl : cs.length ≤ 1000000) (h0 : faultL l cs ch = 0) : ACalls Tryz.prog 24 [.c (legs_r v l), .c (ints_r w cs), .c (I ch)] [] fun u H => ∃ c : Nat, l.length + 1 ≤ c ∧ u = .t [.o 0 0 (l.length + 1) c, .c (I 0)] ∧ H = [.arr 3 1 c ((speedsS l cs ch).map fun z => [I z])] := by
  refine acalls_of (N := 20) Tryz.func24 rfl rfl (by simp) fun E hE => ?_
  refine WA ?_
  refine WR ?_
  refine al_ef rfl (ef_call0 false (fun _ => fault1_a l cs ch v w (by omega) (by omega)) rfl .fn rfl (by decide) (by kernel_rfl) rfl (fun _ => C0 rfl) (by simp)) ?_
  rintro _ _ ⟨_, _, _, ⟨rfl, rfl⟩, hF, hH⟩
  (try simp only [nsl, Nat.reduceAdd, Nat.reduceLT, Nat.reduceSub] at hF); (try simp only [nsl, Nat.reduceAdd, Nat.reduceLT, Nat.reduceSub] at hH); subst hF; subst hH
  refine WE ?_
  refine WA ?_
  refine aw_cond_f rfl ?_
  obtain ⟨hr, hc⟩ := faultL_ok h0
  refine ZZ ?_
  refine WR ?_
  refine al_ef rfl (ef_call0 false (fun _ => speeds_o l cs ch v w hr hc) rfl .fn rfl (by decide) (by kernel_rfl) rfl (fun _ => C0 rfl) (by simp)) ?_
  rintro _ _ ⟨_, _, _, ⟨c, hc1, rfl, rfl⟩, hF, hH⟩
  (try simp only [nsl, Nat.reduceAdd, Nat.reduceLT, Nat.reduceSub] at hF); (try simp only [nsl, Nat.reduceAdd, Nat.reduceLT, Nat.reduceSub] at hH); subst hF; subst hH
  refine WE ?_
  exact aret_of (us := [.o 0 0 (l.length + 1) c, .c (I 0)]) [some 0] (fun _ => .t [.o 0 0 (l.length + 1) c, .c (I 0)]) (fun _ => [.arr 3 1 c ((speedsS l cs ch).map fun z => [I z])]) (.tmp rfl (.tmp rfl .nil)) (by decide) (ZNK rfl) (fun _ => .tL (.cons (.o rfl rfl) (.cons (.c rfl) .nil))) ZCH (fun _ => ⟨c, hc1, rfl, rfl⟩)
theorem given_a (l : List Leg) (cs q : List Int) (ch : Int) (v w vq : Value) (hl : l.length ≤ 1000000) (hcl : cs.length ≤ 1000000) : ACalls Tryz.prog 85 [.c (legs_r v l), .c (ints_r w cs), .c (ints_r vq q), .c (I ch)] [] fun u H => u = .c (I (givenF l cs q ch)) ∧ H = [] := by
  have e1 : (l.map Leg.row).length = l.length := by simp
  have e3 : (q.map fun z => [I z]).length = q.length := by simp
  refine acalls_of (N := 23) Tryz.func85 rfl rfl (by simp) fun E hE => ?_
  refine WA ?_
  refine WR ?_
  refine al_ef rfl (ef_call0 false (fun _ => fault1_a l cs ch v w (by omega) (by omega)) rfl .fn rfl (by decide) (by kernel_rfl) rfl (fun _ => C0 rfl) (by simp)) ?_
  rintro _ _ ⟨_, _, _, ⟨rfl, rfl⟩, hF, hH⟩
  (try simp only [nsl, Nat.reduceAdd, Nat.reduceLT, Nat.reduceSub] at hF); (try simp only [nsl, Nat.reduceAdd, Nat.reduceLT, Nat.reduceSub] at hH); subst hF; subst hH
  refine WE ?_
  refine WA ?_
  refine aw_if rfl (fun hne => ?_) (fun heq => ?_)
  · refine WA ?_
    exact aret_1 [] _ rfl rfl rfl (by decide) (ZNK rfl) (fun _ => .nil) ⟨by rw [givenF, if_pos hne], rfl⟩
  refine ZZ ?_
  refine WA ?_
  refine aw_if rfl (fun hn => ?_) (fun hn => ?_)
  · refine WA ?_
    exact aret_1 [] _ rfl rfl rfl (by decide) (ZNK rfl) (fun _ => .nil) ⟨by rw [givenF, if_neg heq, if_pos (by omega)], rfl⟩
  · refine ZZ ?_
    refine WA ?_
    exact aret_1 [] _ rfl rfl rfl (by decide) (ZNK rfl) (fun _ => .nil) ⟨by rw [givenF, if_neg heq, if_neg (by omega)], rfl⟩
theorem givenF_ok {l : List Leg} {cs q : List Int} {ch : Int} (h : givenF l cs q ch = 0) : Right l cs ∧ (1 ≤ ch ∧ ch ≤ 10000000) ∧ q.length = l.length + 1 := by
  unfold givenF at h
  split at h
  · omega
  · split at h
    · omega
    · obtain ⟨h1, h2⟩ := faultL_ok (l := l) (cs := cs) (ch := ch) (by omega)
      exact ⟨h1, h2, by omega⟩
theorem keptx_a (l : List Leg) (cs q : List Int) (ch : Int) (v w vq : Value) (hl : l.length ≤ 1000000) (hcl : cs.length ≤ 1000000) : ACalls Tryz.prog 28 [.c (legs_r v l), .c (ints_r w cs), .c (ints_r vq q), .c (I ch)] [] fun u H => ∃ b : Bool, u = .t [.c (B b), .c (I (givenF l cs q ch))] ∧ H = [] ∧ (b = true ↔ givenF l cs q ch = 0 ∧ KeptP l cs q ch) := by
  refine acalls_of (N := 24) Tryz.func28 rfl rfl (by simp) fun E hE => ?_
  refine WA ?_
  refine WR ?_
  refine al_ef rfl (ef_call0 false (fun _ => given_a l cs q ch v w vq hl hcl) rfl .fn rfl (by decide) (by kernel_rfl) rfl (fun _ => C0 rfl) (by simp)) ?_
  rintro _ _ ⟨_, _, _, ⟨rfl, rfl⟩, hF, hH⟩
  (try simp only [nsl, Nat.reduceAdd, Nat.reduceLT, Nat.reduceSub] at hF); (try simp only [nsl, Nat.reduceAdd, Nat.reduceLT, Nat.reduceSub] at hH); subst hF; subst hH
  refine WE ?_
  refine WA ?_
  refine aw_if rfl (fun hne => ?_) (fun heq => ?_)
  · refine WA ?_
    exact aret_2 [] _ rfl rfl rfl rfl rfl (by decide) (ZNK rfl) (fun _ => .nil) ⟨false, rfl, rfl, by simp only [Bool.false_eq_true, false_iff]; exact fun h => hne h.1⟩
  have h0 : givenF l cs q ch = 0 := by omega
  obtain ⟨hr, hc, hq⟩ := givenF_ok h0
  refine ZZ ?_
  refine WR ?_
  refine al_ef rfl (ef_call0 false (fun _ => kept_a l cs q ch v w vq hr hc hq) rfl .fn rfl (by decide) (by kernel_rfl) rfl (fun _ => C0 rfl) (by simp)) ?_
  rintro _ _ ⟨_, _, _, ⟨bk, rfl, rfl, hbk⟩, hF, hH⟩
  (try simp only [nsl, Nat.reduceAdd, Nat.reduceLT, Nat.reduceSub] at hF); (try simp only [nsl, Nat.reduceAdd, Nat.reduceLT, Nat.reduceSub] at hH); subst hF; subst hH
  refine WE ?_
  exact aret_2 [] _ rfl rfl rfl rfl rfl (by decide) (ZNK rfl) (fun _ => .nil) ⟨bk, by rw [h0], rfl, by rw [hbk]; exact ⟨fun h => ⟨h0, h⟩, fun h => h.2⟩⟩
theorem slowx_a (l : List Leg) (cs q : List Int) (ch : Int) (v w vq : Value) (hl : l.length ≤ 1000000) (hcl : cs.length ≤ 1000000) : ACalls Tryz.prog 30 [.c (legs_r v l), .c (ints_r w cs), .c (ints_r vq q), .c (I ch)] [] fun u H => ∃ (v' : Value) (e : Int), u = .t [.c (ints_r v' (if e = 0 then slowS l cs q ch else [])), .c (I e)] ∧ H = [] ∧ (givenF l cs q ch ≠ 0 → e = givenF l cs q ch) ∧ (givenF l cs q ch = 0 → KeptP l cs q ch → e = 0) ∧ (givenF l cs q ch = 0 → ¬ KeptP l cs q ch → e = 16) := by
  have e2 := speedsS_len l cs ch
  have e3 : ((speedsS l cs ch).map fun z => [I z]).length = (speedsS l cs ch).length := by simp
  have e4 : (q.map fun z => [I z]).length = q.length := by simp
  refine acalls_of (N := 50) Tryz.func30 rfl rfl (by simp) fun E hE => ?_
  refine WA ?_
  refine WR ?_
  refine al_ef rfl (ef_call0 false (fun _ => given_a l cs q ch v w vq hl hcl) rfl .fn rfl (by decide) (by kernel_rfl) rfl (fun _ => C0 rfl) (by simp)) ?_
  rintro _ _ ⟨_, _, _, ⟨rfl, rfl⟩, hF, hH⟩
  (try simp only [nsl, Nat.reduceAdd, Nat.reduceLT, Nat.reduceSub] at hF); (try simp only [nsl, Nat.reduceAdd, Nat.reduceLT, Nat.reduceSub] at hH); subst hF; subst hH
  refine WE ?_
  refine WA ?_
  refine aw_if rfl (fun hne => ?_) (fun heq => ?_)
  · refine WA ?_
    exact aret_2 [] _ rfl rfl rfl rfl rfl (by decide) (ZNK rfl) (fun _ => .nil) ⟨_, _, by rw [if_neg hne]; rfl, rfl, fun _ => rfl, fun h => absurd h hne, fun h => absurd h hne⟩
  have h0 : givenF l cs q ch = 0 := by omega
  obtain ⟨hr, hc, hq⟩ := givenF_ok h0
  refine ZZ ?_
  refine WR ?_
  refine al_ef rfl (ef_call0 false (fun _ => kept_a l cs q ch v w vq hr hc hq) rfl .fn rfl (by decide) (by kernel_rfl) rfl (fun _ => C0 rfl) (by simp)) ?_
  rintro _ _ ⟨_, _, _, ⟨bk, rfl, rfl, hbk⟩, hF, hH⟩
  (try simp only [nsl, Nat.reduceAdd, Nat.reduceLT, Nat.reduceSub] at hF); (try simp only [nsl, Nat.reduceAdd, Nat.reduceLT, Nat.reduceSub] at hH); subst hF; subst hH
  refine WE ?_
  cases bk
  · refine aw_cond_t rfl ?_
    have hnk : ¬ KeptP l cs q ch := fun h => by have := hbk.2 h; cases this
    refine WA ?_
    exact aret_2 [] _ rfl rfl rfl rfl rfl (by decide) (ZNK rfl) (fun _ => .nil) ⟨_, 16, rfl, rfl, fun h => absurd h0 h, fun _ h => absurd h hnk, fun _ _ => rfl⟩
  have hkp := hbk.1 rfl
  refine aw_cond_f rfl ?_
  refine ZZ ?_
  refine WA ?_
  refine WR ?_
  refine al_ef rfl (ef_call0 false (fun _ => speeds_a l cs ch v w hr hc) rfl .fn rfl (by decide) (by kernel_rfl) rfl (fun _ => C0 rfl) (by simp)) ?_
  rintro _ _ ⟨_, _, _, ⟨vv, rfl, rfl⟩, hF, hH⟩
  (try simp only [nsl, Nat.reduceAdd, Nat.reduceLT, Nat.reduceSub] at hF); (try simp only [nsl, Nat.reduceAdd, Nat.reduceLT, Nat.reduceSub] at hH); subst hF; subst hH
  refine WE ?_
  refine aw_loopw (fun m F H => ∃ (k c : Nat) (p : List Int), m + k = l.length + 1 ∧ p = slowU l cs q ch k ∧ F = [(2, .c (ints_r vq q)), (11, .o 0 0 p.length c), (31, .c (ints_r vv (speedsS l cs ch))), (31 + 1, .c (I ((speedsS l cs ch).map fun z => [I z]).length)), (31 + 2, .c (I k))] ∧ H = [.arr 3 1 c (p.map fun z => [I z])]) ?_ ?_
  · refine wk_of [none] (fun _ => [(2, .c (ints_r vq q)), (11, .o 0 0 ([] : List Int).length 0), (31, .c (ints_r vv (speedsS l cs ch))), (31 + 1, .c (I ((speedsS l cs ch).map fun z => [I z]).length)), (31 + 2, .c (I (0 : Nat)))]) (fun _ => [.arr 3 1 0 (([] : List Int).map fun z => [I z])]) (by decide) (ZNL hE) ZCF ZCH (fun _ => ?_)
    exact ⟨l.length + 1, 0, 0, [], by omega, rfl, rfl, rfl⟩
  rintro m F H ⟨k, c, p, hk, hp, rfl, rfl⟩
  have hpl : p.length ≤ k := by rw [hp]; exact slowU_len l cs q ch k
  refine WA ?_
  refine aw_if rfl (fun hlt => ?_) (fun hge => ?_)
  · have gq := get_getD (q := q) (k := k) (by omega)
    have r1 : (q.map fun z => [I z])[k]? = some [I (q.getD k 0)] := by rw [List.getElem?_map, gq]; rfl
    have r2 : ((speedsS l cs ch).map fun z => [I z])[k]? = some [I (spdL l cs ch k)] := by rw [List.getElem?_map, speedsS_get (by omega)]; rfl
    refine WA ?_
    refine WA ?_
    refine aw_if rfl (fun hs => ?_) (fun hs => ?_)
    · refine WR ?_
      refine al_ef rfl (Zapp (KA (t := 22) rfl)) ?_
      rintro _ _ ⟨_, cc, hcc, rfl, rfl⟩
      refine WE ?_
      refine WA ?_
      refine wk_of [some 0] (fun _ => [(2, .c (ints_r vq q)), (11, .o 0 0 (p ++ [(k : Int)]).length cc), (31, .c (ints_r vv (speedsS l cs ch))), (31 + 1, .c (I ((speedsS l cs ch).map fun z => [I z]).length)), (31 + 2, .c (I (k + 1 : Nat)))]) (fun _ => _) (by decide) (ZNL hE) ZCF ZCH (fun _ => ?_)
      exact ⟨m - 1, by omega, k + 1, cc, p ++ [(k : Int)], by omega, by rw [slowU_t hs, hp], rfl, by rw [List.map_append]; rfl⟩
    · refine ZZ ?_
      refine WA ?_
      refine wk_of [some 0] (fun _ => [(2, .c (ints_r vq q)), (11, .o 0 0 p.length c), (31, .c (ints_r vv (speedsS l cs ch))), (31 + 1, .c (I ((speedsS l cs ch).map fun z => [I z]).length)), (31 + 2, .c (I (k + 1 : Nat)))]) (fun _ => _) (by decide) (ZNL hE) ZCF ZCH (fun _ => ?_)
      exact ⟨m - 1, by omega, k + 1, c, p, by omega, by rw [slowU_f hs, hp], rfl, rfl⟩
  obtain rfl : k = l.length + 1 := by omega
  refine ZZ ?_
  refine WA ?_
  exact aret_f2 [] [] rfl rfl rfl rfl rfl rfl (by rw [List.drop_zero, List.take_of_length_le (by simp)]) (by simp) (by decide) (by decide) (ZNK rfl) (fun _ => .nil) (fun v' => ⟨v', 0, by rw [if_pos rfl, hp]; rfl, rfl, fun h => absurd h0 h, fun _ _ => rfl, fun _ h => absurd hkp h⟩)
end Go.Proofs.YtdmeohgojdfmoaaGreatDoor
