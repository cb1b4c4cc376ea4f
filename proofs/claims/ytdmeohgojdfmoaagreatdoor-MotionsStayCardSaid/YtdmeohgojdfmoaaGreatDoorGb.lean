/- Unsigned words; math/bits.Mul of small numbers; slices.Repeat of a zero point. -/
import Derived.Test.YtdmeohgojdfmoaaGreatDoorKs
import Derived.Laws.Bits64b
set_option linter.unusedSimpArgs false
set_option linter.unusedVariables false
namespace Go.Proofs.YtdmeohgojdfmoaaGreatDoor
open Go Go.RowKit
set_option maxRecDepth 100000
section
variable {P : Program} {N : Nat} {E : Env} {F : Fm} {H : List OB} {o : Oper} {t yt : TypeId} {x y : Operand}
theorem rd_conv {s : TypeId} {k k' : IntKind} {n r : Int} (hs : (P.underlying s).isSome = true) (ht : P.underlying t = some (.int k')) (ho : o.op = .convert s t x) (hx : ev F x = some (.c (.s (.int k n)))) (hw : k'.wrap n = r) : Rd P N E o F H (.c (.s (.int k' r))) := fun S ρ a w hR => by
  have h1 := (hR.ev hx).1
  simp only [AV.den, CV.den] at h1
  have hk : P.intKind t = k' := by unfold Program.intKind; rw [ht]
  refine ⟨?_, .c (.s _)⟩
  have := run_convert_int (P := P) w s t k n hs (by rw [hk]; exact ht)
  rw [hk, hw] at this
  simp only [execOp, ho, h1]
  rw [Sem.run_bind, this]
  rfl
theorem rd_uand {m n : Nat} (ho : o.op = .binOp .and t x y yt) (hx : ev F x = some (.c (.s (.int .u64 m)))) (hy : ev F y = some (.c (.s (.int .u64 n)))) (hm : m < 4294967296) (hn : n = 4294967295) : Rd P N E o F H (.c (.s (.int .u64 m))) :=
  rd_int ho hx hy (by simp) fun w => by
    subst hn
    have h := bits_and_u64_nat m 4294967295 (by omega) (by omega)
    have h2 : m &&& 4294967295 = m := by
      rw [show (4294967295 : Nat) = 2 ^ 32 - 1 from rfl, Nat.and_two_pow_sub_one_eq_mod, Nat.mod_eq_of_lt (by omega)]
    rw [h2] at h
    exact congrArg (fun z => Result.ok (Value.int .u64 z) w) h
theorem rd_umul {m n r : Nat} (ho : o.op = .binOp .mul t x y yt) (hx : ev F x = some (.c (.s (.int .u64 m)))) (hy : ev F y = some (.c (.s (.int .u64 n)))) (hr : m * n = r) (hl : r < 18446744073709551616) : Rd P N E o F H (.c (.s (.int .u64 r))) :=
  rd_int ho hx hy (by simp) fun w => by
    subst hr
    simp only [Op.intArith, Sem.run_pure, IntKind.wrap_u64]
    rw [← Int.natCast_mul]
    congr 3
    omega
theorem rd_uadd {m n r : Nat} (ho : o.op = .binOp .add t x y yt) (hx : ev F x = some (.c (.s (.int .u64 m)))) (hy : ev F y = some (.c (.s (.int .u64 n)))) (hr : m + n = r) (hl : r < 18446744073709551616) : Rd P N E o F H (.c (.s (.int .u64 r))) :=
  rd_int ho hx hy (by simp) fun w => by
    subst hr
    simp only [Op.intArith, Sem.run_pure, IntKind.wrap_u64]
    congr 3
    omega
theorem rd_ushr {m : Nat} (ho : o.op = .binOp .shr t x y yt) (hx : ev F x = some (.c (.s (.int .u64 m)))) (hy : ev F y = some (.c (.s (.int .u64 32)))) (hl : m < 4294967296) : Rd P N E o F H (.c (.s (.int .u64 (0 : Nat)))) :=
  rd_bin ho hx hy (fun _ _ => rfl) (fun _ _ => rfl) fun w => by
    simp [eqGuard, binOp, Op.shift, CV.den]
    show (m : Int).fdiv (2 ^ 32) = 0
    rw [Int.fdiv_eq_ediv_of_nonneg _ (by decide)]
    omega
end
theorem mul64_a (n : Nat) (h : n < 4294967296) : ACalls Tryz.prog 183 [.c (.s (.int .u64 (1 : Nat))), .c (.s (.int .u64 n))] [] fun u H => u = .t [.c (.s (.int .u64 (0 : Nat))), .c (.s (.int .u64 n))] ∧ H = [] := by
  refine acalls_of (N := 51) Tryz.func183 rfl rfl (by simp) fun E hE => ?_
  refine WA ?_
  refine ZR ?_
  refine WX1 ?_
  refine ZA (rd_uand rfl rfl rfl (by omega) rfl) ?_
  refine WE ?_
  refine ZR ?_
  refine WX1 ?_
  refine ZA (rd_ushr rfl rfl rfl (by omega)) ?_
  refine WE ?_
  refine ZR ?_
  refine WX1 ?_
  refine ZA (rd_uand rfl rfl rfl (by omega) rfl) ?_
  refine WE ?_
  refine ZR ?_
  refine WX1 ?_
  refine ZA (rd_ushr rfl rfl rfl (by omega)) ?_
  refine WE ?_
  refine ZR ?_
  iterate 2 refine WX1 ?_
  refine ZA (rd_umul (r := n) rfl rfl rfl (by simp) (by omega)) ?_
  refine WE ?_
  refine ZR ?_
  iterate 2 refine WX1 ?_
  refine ZA (rd_umul (r := 0) rfl rfl rfl (by simp) (by omega)) ?_
  refine WX1 ?_
  refine ZA (rd_ushr rfl rfl rfl (by omega)) ?_
  refine ZA (rd_uadd (r := 0) rfl rfl rfl (by simp) (by omega)) ?_
  refine WE ?_
  refine ZR ?_
  refine WX1 ?_
  refine ZA (rd_uand rfl rfl rfl (by omega) rfl) ?_
  refine WE ?_
  refine ZR ?_
  refine WX1 ?_
  refine ZA (rd_ushr rfl rfl rfl (by omega)) ?_
  refine WE ?_
  refine ZR ?_
  iterate 3 refine WX1 ?_
  refine ZA (rd_umul (r := 0) rfl rfl rfl (by simp) (by omega)) ?_
  refine ZA (rd_uadd (r := 0) rfl rfl rfl (by simp) (by omega)) ?_
  refine WE ?_
  refine ZR ?_
  iterate 2 refine WX1 ?_
  refine ZA (rd_umul (r := 0) rfl rfl rfl (by simp) (by omega)) ?_
  refine WX1 ?_
  refine ZA (rd_uadd (r := 0) rfl rfl rfl (by simp) (by omega)) ?_
  refine WX1 ?_
  refine ZA (rd_ushr rfl rfl rfl (by omega)) ?_
  refine ZA (rd_uadd (r := 0) rfl rfl rfl (by simp) (by omega)) ?_
  refine WE ?_
  refine ZR ?_
  iterate 2 refine WX1 ?_
  refine ZA (rd_umul (r := n) rfl rfl rfl (by simp) (by omega)) ?_
  refine WE ?_
  exact aret_2 [] _ rfl rfl rfl rfl rfl (by decide) (ZNK rfl) (fun _ => .nil) ⟨rfl, rfl⟩
theorem mul_a (n : Nat) (h : n < 4294967296) : ACalls Tryz.prog 157 [.c (.s (.int .u64 (1 : Nat))), .c (.s (.int .u64 n))] [] fun u H => u = .t [.c (.s (.int .u64 (0 : Nat))), .c (.s (.int .u64 n))] ∧ H = [] := by
  refine acalls_of (N := 30) Tryz.func157 rfl rfl (by simp) fun E hE => ?_
  refine WA ?_
  refine aw_cond_f rfl ?_
  refine WR ?_
  refine al_ef rfl (ef_call0 false (fun _ => mul64_a n h) rfl .fn rfl (by decide) (by kernel_rfl) rfl (fun _ => C0 rfl) (by simp)) ?_
  rintro _ _ ⟨_, _, _, ⟨rfl, rfl⟩, hF, hH⟩
  (try simp only [nsl, Nat.reduceAdd, Nat.reduceLT, Nat.reduceSub] at hF); (try simp only [nsl, Nat.reduceAdd, Nat.reduceLT, Nat.reduceSub] at hH); subst hF; subst hH
  refine WE ?_
  refine WA ?_
  exact aret_2 [] _ rfl rfl rfl rfl rfl (by decide) (ZNK rfl) (fun _ => .nil) ⟨rfl, rfl⟩
theorem wrap_i (n : Nat) (h : n ≤ 1000000) : IntKind.i64.wrap (n : Int) = n := by rw [IntKind.wrap_i64]; omega
theorem wrap_u (n : Nat) (h : n ≤ 1000000) : IntKind.u64.wrap (n : Int) = n := by rw [IntKind.wrap_u64]; omega
theorem rep_mid {β : Type} (n m k : Nat) (z : β) (h : m + k ≤ n) : (List.replicate n z).take (0 + m) ++ List.replicate k z ++ (List.replicate n z).drop (0 + m + (List.replicate k z).length) = List.replicate n z := by
  simp only [List.take_replicate, List.drop_replicate, List.replicate_append_replicate, List.length_replicate]
  congr 1; omega
theorem repeat_a (n : Nat) (hn : n ≤ 1000000) : ACalls Tryz.prog 120 [.o 0 0 1 1, .c (I n)] [.arr 90 2 1 [[I 0, I 0]]] fun u H => u = .o 1 0 n n ∧ H = [.arr 90 2 1 [[I 0, I 0]], .arr 90 2 n (List.replicate n [I 0, I 0])] := by
  refine acalls_of (N := 48) Tryz.func120 rfl rfl (by simp) fun E hE => ?_
  refine WA ?_
  refine WA ?_
  refine aw_cond_f rfl ?_
  refine ZZ ?_
  refine ZR ?_
  iterate 2 refine WX1 ?_
  refine ZA (rd_conv (r := ((1 : Nat) : Int)) (by kernel_rfl) Tryz.underlying210 rfl rfl rfl) ?_
  refine WX1 ?_
  refine ZA (rd_conv (r := (n : Int)) (by kernel_rfl) Tryz.underlying210 rfl rfl (wrap_u n hn)) ?_
  refine al_ef rfl (ef_call0 false (fun _ => mul_a n (by omega)) rfl .fn rfl (by decide) (by kernel_rfl) rfl (fun _ => C0 rfl) (by simp)) ?_
  rintro _ _ ⟨_, _, _, ⟨rfl, rfl⟩, hF, hH⟩
  (try simp only [nsl, Nat.reduceAdd, Nat.reduceLT, Nat.reduceSub] at hF); (try simp only [nsl, Nat.reduceAdd, Nat.reduceLT, Nat.reduceSub] at hH); subst hF; subst hH
  refine WE ?_
  refine WA ?_
  refine aw_cond_f rfl ?_
  refine ZZ ?_
  refine ZR ?_
  refine WX1 ?_
  refine ZA (rd_conv (r := (n : Int)) (by kernel_rfl) Tryz.underlying3 rfl rfl (wrap_i n hn)) ?_
  refine al_ef rfl (Zmak (l := n) (c := n) Tryz.underlying85 (KI (t := 90) rfl)) ?_
  rintro _ _ ⟨rfl, rfl⟩
  refine WE ?_
  rcases Nat.eq_zero_or_pos n with h0 | hp
  · refine ZR ?_
    iterate 2 refine WX1 ?_
    refine al_ef rfl (ef_copyo (news := []) (R2 := List.replicate n [I 0, I 0]) rfl rfl (by decide) (KA (t := 85) rfl) rfl rfl (by simp) rfl rfl (by rw [h0]; rfl) (by rw [h0]; rfl) (by simp)) ?_
    rintro _ _ ⟨hF, hH⟩
    simp only [List.set_cons_zero, List.set_cons_succ, List.cons_append, List.nil_append] at hH
    subst hF; subst hH
    refine WE ?_
    refine aw_loopw (fun q F H => F = [(7, .o 1 0 n n), (8, .c (I (0 : Nat)))] ∧ H = [.arr 90 2 1 [[I 0, I 0]], .arr 90 2 n (List.replicate n [I 0, I 0])]) ?_ ?_
    · refine wk_of [some 0, some 1] (fun _ => [(7, .o 1 0 n n), (8, .c (I (0 : Nat)))]) (fun _ => [.arr 90 2 1 [[I 0, I 0]], .arr 90 2 n (List.replicate n [I 0, I 0])]) (by decide) (ZNL hE) ZCF ZCH (fun _ => ⟨0, rfl, rfl⟩)
    rintro q F H ⟨rfl, rfl⟩
    refine WA ?_
    refine aw_cond_f rfl ?_
    refine ZZ ?_
    refine WA ?_
    exact aret_o [some 0, some 1] (fun _ => [.arr 90 2 1 [[I 0, I 0]], .arr 90 2 n (List.replicate n [I 0, I 0])]) rfl rfl rfl rfl rfl (by decide) (ZNK rfl) ZCH (fun _ => ⟨rfl, rfl⟩)
  · refine ZR ?_
    iterate 2 refine WX1 ?_
    refine al_ef rfl (ef_copyo (news := List.replicate 1 [I 0, I 0]) rfl rfl (by decide) (KA (t := 85) rfl) rfl rfl (by simp; try omega) rfl rfl (by rw [Nat.min_eq_left (by omega)]; rfl) (by simp; try omega) (rep_mid n 0 1 _ (by omega))) ?_
    rintro _ _ ⟨hF, hH⟩
    simp only [List.set_cons_zero, List.set_cons_succ, List.cons_append, List.nil_append] at hH
    subst hF; subst hH
    refine WE ?_
    refine aw_loopw (fun q F H => ∃ m : Nat, q + m = n ∧ (1 ≤ m ∨ n = 0) ∧ F = [(7, .o 1 0 n n), (8, .c (I m))] ∧ H = [.arr 90 2 1 [[I 0, I 0]], .arr 90 2 n (List.replicate n [I 0, I 0])]) ?_ ?_
    · refine wk_of [some 0, some 1] (fun _ => [(7, .o 1 0 n n), (8, .c (I (1 : Nat)))]) (fun _ => [.arr 90 2 1 [[I 0, I 0]], .arr 90 2 n (List.replicate n [I 0, I 0])]) (by decide) (ZNL hE) ZCF ZCH (fun _ => ⟨n - 1, 1, by omega, by omega, rfl, rfl⟩)
    rintro q F H ⟨m, hq, hm1, rfl, rfl⟩
    refine WA ?_
    refine aw_if rfl (fun hlt => ?_) (fun hge => ?_)
    · refine ZZ ?_
      refine aw_regionT [(0, none), (1, none), (2, none), (3, none), (4, none), (5, none), (6, none), (7, some [0]), (8, none), (9, none)] hMixed (by kernel_rfl) ?_
      iterate 3 refine WX2 ?_
      refine ZT rfl (rd_slice (l := m) rfl (KE (t := 85) rfl) rfl rfl (.inr ⟨_, _, _, rfl, rfl, rfl⟩) (.inl ⟨rfl, rfl⟩) (by omega) (by omega) (by omega)) ?_
      iterate 2 refine WX2 ?_
      refine ZT rfl (rd_slice (l := 0) (h := m) rfl (KE (t := 85) rfl) rfl rfl (.inl ⟨rfl, rfl⟩) (.inr ⟨_, _, _, rfl, rfl, rfl⟩) (by omega) (by omega) (by omega)) ?_
      refine at_ef rfl rfl (ef_copyo (news := List.replicate (min m (n - m)) [I 0, I 0]) rfl rfl (by decide) (KA (t := 85) rfl) rfl rfl (by simp; try omega) rfl rfl (by simp) (by simp; try omega) (rep_mid n m (min m (n - m)) _ (by omega))) ?_
      rintro _ _ ⟨hF, hH⟩
      simp only [List.set_cons_zero, List.set_cons_succ, List.cons_append, List.nil_append] at hH
      subst hF; subst hH
      refine ⟨ag_cons (by first | exact ag_rd rfl rfl rfl (rd_move rfl rfl) rfl) (ag_none), ?_⟩
      refine WQ ?_
      refine wk_of [some 0, some 1] (fun _ => [(7, .o 1 0 n n), (8, .c (I (m + min m (n - m) : Nat)))]) (fun _ => [.arr 90 2 1 [[I 0, I 0]], .arr 90 2 n (List.replicate n [I 0, I 0])]) (by decide) (ZNL hE) (fun _ => .cons rfl (.o rfl rfl) (.cons rfl (.c (by simp only [List.length_replicate]; rw [IntWalk.wrap64_in _ (by omega)]; simp)) .nil)) ZCH (fun _ => ?_)
      exact ⟨n - (m + min m (n - m)), by omega, m + min m (n - m), by omega, by omega, rfl, rfl⟩
    refine WA ?_
    exact aret_o [some 0, some 1] (fun _ => [.arr 90 2 1 [[I 0, I 0]], .arr 90 2 n (List.replicate n [I 0, I 0])]) rfl rfl rfl rfl rfl (by decide) (ZNK rfl) ZCH (fun _ => ⟨rfl, rfl⟩)
end Go.Proofs.YtdmeohgojdfmoaaGreatDoor
