/- The stream, by value: what it gives is a function of its numbers and its counter. -/
import Derived.Test.YtdmeohgojdfmoaaGreatQax
import Derived.Laws.Bits64b
import Derived.Test.YtdmeohgojdfmoaaGreatQas
set_option linter.unusedSimpArgs false
set_option linter.unusedVariables false
/- Unsigned words; math/bits.Mul of small numbers; slices.Repeat of a zero point. -/
namespace Go.Proofs.YtdmeohgojdfmoaaGreat
open Go Go.RowKit
set_option maxRecDepth 100000
section
variable {P : Program} {N : Nat} {E : Env} {F : Fm} {H : List OB} {o : Oper} {t yt : TypeId} {x y : Operand}
theorem rd_conv {s : TypeId} {k k' : IntKind} {n r : Int} (hs : (P.underlying s).isSome = true) (ht : P.underlying t = some (.int k')) (ho : o.op = .convert s t x) (hx : ev F x = some (.c (.s (.int k n)))) (hw : k'.wrap n = r) : Rd P N E o F H (.c (.s (.int k' r))) := fun S ρ a w hR => by
  have h1 := (hR.ev hx).1
  simp only [AV.den, CV.den] at h1
  have hk : P.intKind t = k' := by unfold Program.intKind; rw [ht]
  refine ⟨?_, .c (.s _)⟩
  have := run_convert_int (P := P) w s t k n hs (by rw [hk]; exact ht)
  rw [hk, hw] at this
  simp only [execOp, ho, h1]
  rw [Sem.run_bind, this]
  rfl
theorem rd_uand {m n : Nat} (ho : o.op = .binOp .and t x y yt) (hx : ev F x = some (.c (.s (.int .u64 m)))) (hy : ev F y = some (.c (.s (.int .u64 n)))) (hm : m < 4294967296) (hn : n = 4294967295) : Rd P N E o F H (.c (.s (.int .u64 m))) :=
  rd_int ho hx hy (by simp) fun w => by
    subst hn
    have h := bits_and_u64_nat m 4294967295 (by omega) (by omega)
    have h2 : m &&& 4294967295 = m := by
      rw [show (4294967295 : Nat) = 2 ^ 32 - 1 from rfl, Nat.and_two_pow_sub_one_eq_mod, Nat.mod_eq_of_lt (by omega)]
    rw [h2] at h
    exact congrArg (fun z => Result.ok (Value.int .u64 z) w) h
theorem rd_umul {m n r : Nat} (ho : o.op = .binOp .mul t x y yt) (hx : ev F x = some (.c (.s (.int .u64 m)))) (hy : ev F y = some (.c (.s (.int .u64 n)))) (hr : m * n = r) (hl : r < 18446744073709551616) : Rd P N E o F H (.c (.s (.int .u64 r))) :=
  rd_int ho hx hy (by simp) fun w => by
    subst hr
    simp only [Op.intArith, Sem.run_pure, IntKind.wrap_u64]
    rw [← Int.natCast_mul]
    congr 3
    omega
theorem rd_uadd {m n r : Nat} (ho : o.op = .binOp .add t x y yt) (hx : ev F x = some (.c (.s (.int .u64 m)))) (hy : ev F y = some (.c (.s (.int .u64 n)))) (hr : m + n = r) (hl : r < 18446744073709551616) : Rd P N E o F H (.c (.s (.int .u64 r))) :=
  rd_int ho hx hy (by simp) fun w => by
    subst hr
    simp only [Op.intArith, Sem.run_pure, IntKind.wrap_u64]
    congr 3
    omega
theorem rd_ushr {m : Nat} (ho : o.op = .binOp .shr t x y yt) (hx : ev F x = some (.c (.s (.int .u64 m)))) (hy : ev F y = some (.c (.s (.int .u64 32)))) (hl : m < 4294967296) : Rd P N E o F H (.c (.s (.int .u64 (0 : Nat)))) :=
  rd_bin ho hx hy (fun _ _ => rfl) (fun _ _ => rfl) fun w => by
    simp [eqGuard, binOp, Op.shift, CV.den]
    show (m : Int).fdiv (2 ^ 32) = 0
    rw [Int.fdiv_eq_ediv_of_nonneg _ (by decide)]
    omega
end
theorem mul64_a (n : Nat) (h : n < 4294967296) : ACalls Tryz.prog 43 [.c (.s (.int .u64 (1 : Nat))), .c (.s (.int .u64 n))] [] fun u H => u = .t [.c (.s (.int .u64 (0 : Nat))), .c (.s (.int .u64 n))] ∧ H = [] := by
  refine acalls_of (N := 51) Tryz.func43 rfl rfl (by simp) fun E hE => ?_
  refine WA ?_
  refine ZR ?_
  refine WX1 ?_
  refine ZA (rd_uand rfl rfl rfl (by omega) rfl) ?_
  refine WE ?_
  refine ZR ?_
  refine WX1 ?_
  refine ZA (rd_ushr rfl rfl rfl (by omega)) ?_
  refine WE ?_
  refine ZR ?_
  refine WX1 ?_
  refine ZA (rd_uand rfl rfl rfl (by omega) rfl) ?_
  refine WE ?_
  refine ZR ?_
  refine WX1 ?_
  refine ZA (rd_ushr rfl rfl rfl (by omega)) ?_
  refine WE ?_
  refine ZR ?_
  iterate 2 refine WX1 ?_
  refine ZA (rd_umul (r := n) rfl rfl rfl (by simp) (by omega)) ?_
  refine WE ?_
  refine ZR ?_
  iterate 2 refine WX1 ?_
  refine ZA (rd_umul (r := 0) rfl rfl rfl (by simp) (by omega)) ?_
  refine WX1 ?_
  refine ZA (rd_ushr rfl rfl rfl (by omega)) ?_
  refine ZA (rd_uadd (r := 0) rfl rfl rfl (by simp) (by omega)) ?_
  refine WE ?_
  refine ZR ?_
  refine WX1 ?_
  refine ZA (rd_uand rfl rfl rfl (by omega) rfl) ?_
  refine WE ?_
  refine ZR ?_
  refine WX1 ?_
  refine ZA (rd_ushr rfl rfl rfl (by omega)) ?_
  refine WE ?_
  refine ZR ?_
  iterate 3 refine WX1 ?_
  refine ZA (rd_umul (r := 0) rfl rfl rfl (by simp) (by omega)) ?_
  refine ZA (rd_uadd (r := 0) rfl rfl rfl (by simp) (by omega)) ?_
  refine WE ?_
  refine ZR ?_
  iterate 2 refine WX1 ?_
  refine ZA (rd_umul (r := 0) rfl rfl rfl (by simp) (by omega)) ?_
  refine WX1 ?_
  refine ZA (rd_uadd (r := 0) rfl rfl rfl (by simp) (by omega)) ?_
  refine WX1 ?_
  refine ZA (rd_ushr rfl rfl rfl (by omega)) ?_
  refine ZA (rd_uadd (r := 0) rfl rfl rfl (by simp) (by omega)) ?_
  refine WE ?_
  refine ZR ?_
  iterate 2 refine WX1 ?_
  refine ZA (rd_umul (r := n) rfl rfl rfl (by simp) (by omega)) ?_
  refine WE ?_
  exact aret_2 [] _ rfl rfl rfl rfl rfl (by decide) (ZNK rfl) (fun _ => .nil) ⟨rfl, rfl⟩
theorem mul_a (n : Nat) (h : n < 4294967296) : ACalls Tryz.prog 26 [.c (.s (.int .u64 (1 : Nat))), .c (.s (.int .u64 n))] [] fun u H => u = .t [.c (.s (.int .u64 (0 : Nat))), .c (.s (.int .u64 n))] ∧ H = [] := by
  refine acalls_of (N := 30) Tryz.func26 rfl rfl (by simp) fun E hE => ?_
  refine WA ?_
  refine aw_cond_f rfl ?_
  refine WR ?_
  refine al_ef rfl (ef_call0 false (fun _ => mul64_a n h) rfl .fn rfl (by decide) (by kernel_rfl) rfl (fun _ => C0 rfl) (by simp)) ?_
  rintro _ _ ⟨_, _, _, ⟨rfl, rfl⟩, hF, hH⟩
  (try simp only [nsl, Nat.reduceAdd, Nat.reduceLT, Nat.reduceSub] at hF); (try simp only [nsl, Nat.reduceAdd, Nat.reduceLT, Nat.reduceSub] at hH); subst hF; subst hH
  refine WE ?_
  refine WA ?_
  exact aret_2 [] _ rfl rfl rfl rfl rfl (by decide) (ZNK rfl) (fun _ => .nil) ⟨rfl, rfl⟩
theorem wrap_i (n : Nat) (h : n ≤ 1000000) : IntKind.i64.wrap (n : Int) = n := by rw [IntKind.wrap_i64]; omega
theorem wrap_u (n : Nat) (h : n ≤ 1000000) : IntKind.u64.wrap (n : Int) = n := by rw [IntKind.wrap_u64]; omega
theorem rep_mid {β : Type} (n m k : Nat) (z : β) (h : m + k ≤ n) : (List.replicate n z).take (0 + m) ++ List.replicate k z ++ (List.replicate n z).drop (0 + m + (List.replicate k z).length) = List.replicate n z := by
  simp only [List.take_replicate, List.drop_replicate, List.replicate_append_replicate, List.length_replicate]
  congr 1; omega
theorem repeat_a (n : Nat) (hn : n ≤ 1000000) : ACalls Tryz.prog 14 [.o 0 0 1 1, .c (I n)] [.arr 39 2 1 [[I 0, I 0]]] fun u H => u = .o 1 0 n n ∧ H = [.arr 39 2 1 [[I 0, I 0]], .arr 39 2 n (List.replicate n [I 0, I 0])] := by
  refine acalls_of (N := 48) Tryz.func14 rfl rfl (by simp) fun E hE => ?_
  refine WA ?_
  refine WA ?_
  refine aw_cond_f rfl ?_
  refine ZZ ?_
  refine ZR ?_
  iterate 2 refine WX1 ?_
  refine ZA (rd_conv (r := ((1 : Nat) : Int)) (by kernel_rfl) Tryz.underlying75 rfl rfl rfl) ?_
  refine WX1 ?_
  refine ZA (rd_conv (r := (n : Int)) (by kernel_rfl) Tryz.underlying75 rfl rfl (wrap_u n hn)) ?_
  refine al_ef rfl (ef_call0 false (fun _ => mul_a n (by omega)) rfl .fn rfl (by decide) (by kernel_rfl) rfl (fun _ => C0 rfl) (by simp)) ?_
  rintro _ _ ⟨_, _, _, ⟨rfl, rfl⟩, hF, hH⟩
  (try simp only [nsl, Nat.reduceAdd, Nat.reduceLT, Nat.reduceSub] at hF); (try simp only [nsl, Nat.reduceAdd, Nat.reduceLT, Nat.reduceSub] at hH); subst hF; subst hH
  refine WE ?_
  refine WA ?_
  refine aw_cond_f rfl ?_
  refine ZZ ?_
  refine ZR ?_
  refine WX1 ?_
  refine ZA (rd_conv (r := (n : Int)) (by kernel_rfl) Tryz.underlying3 rfl rfl (wrap_i n hn)) ?_
  refine al_ef rfl (Zmak (l := n) (c := n) Tryz.underlying26 (KI (t := 39) rfl)) ?_
  rintro _ _ ⟨rfl, rfl⟩
  refine WE ?_
  rcases Nat.eq_zero_or_pos n with h0 | hp
  · refine ZR ?_
    iterate 2 refine WX1 ?_
    refine al_ef rfl (ef_copyo (news := []) (R2 := List.replicate n [I 0, I 0]) rfl rfl (by decide) (KA (t := 26) rfl) rfl rfl (by simp) rfl rfl (by rw [h0]; rfl) (by rw [h0]; rfl) (by simp)) ?_
    rintro _ _ ⟨hF, hH⟩
    simp only [List.set_cons_zero, List.set_cons_succ, List.cons_append, List.nil_append] at hH
    subst hF; subst hH
    refine WE ?_
    refine aw_loopw (fun q F H => F = [(7, .o 1 0 n n), (8, .c (I (0 : Nat)))] ∧ H = [.arr 39 2 1 [[I 0, I 0]], .arr 39 2 n (List.replicate n [I 0, I 0])]) ?_ ?_
    · refine wk_of [some 0, some 1] (fun _ => [(7, .o 1 0 n n), (8, .c (I (0 : Nat)))]) (fun _ => [.arr 39 2 1 [[I 0, I 0]], .arr 39 2 n (List.replicate n [I 0, I 0])]) (by decide) (ZNL hE) ZCF ZCH (fun _ => ⟨0, rfl, rfl⟩)
    rintro q F H ⟨rfl, rfl⟩
    refine WA ?_
    refine aw_cond_f rfl ?_
    refine ZZ ?_
    refine WA ?_
    exact aret_o [some 0, some 1] (fun _ => [.arr 39 2 1 [[I 0, I 0]], .arr 39 2 n (List.replicate n [I 0, I 0])]) rfl rfl rfl rfl rfl (by decide) (ZNK rfl) ZCH (fun _ => ⟨rfl, rfl⟩)
  · refine ZR ?_
    iterate 2 refine WX1 ?_
    refine al_ef rfl (ef_copyo (news := List.replicate 1 [I 0, I 0]) rfl rfl (by decide) (KA (t := 26) rfl) rfl rfl (by simp; try omega) rfl rfl (by rw [Nat.min_eq_left (by omega)]; rfl) (by simp; try omega) (rep_mid n 0 1 _ (by omega))) ?_
    rintro _ _ ⟨hF, hH⟩
    simp only [List.set_cons_zero, List.set_cons_succ, List.cons_append, List.nil_append] at hH
    subst hF; subst hH
    refine WE ?_
    refine aw_loopw (fun q F H => ∃ m : Nat, q + m = n ∧ (1 ≤ m ∨ n = 0) ∧ F = [(7, .o 1 0 n n), (8, .c (I m))] ∧ H = [.arr 39 2 1 [[I 0, I 0]], .arr 39 2 n (List.replicate n [I 0, I 0])]) ?_ ?_
    · refine wk_of [some 0, some 1] (fun _ => [(7, .o 1 0 n n), (8, .c (I (1 : Nat)))]) (fun _ => [.arr 39 2 1 [[I 0, I 0]], .arr 39 2 n (List.replicate n [I 0, I 0])]) (by decide) (ZNL hE) ZCF ZCH (fun _ => ⟨n - 1, 1, by omega, by omega, rfl, rfl⟩)
    rintro q F H ⟨m, hq, hm1, rfl, rfl⟩
    refine WA ?_
    refine aw_if rfl (fun hlt => ?_) (fun hge => ?_)
    · refine ZZ ?_
      refine aw_regionT [(0, none), (1, none), (2, none), (3, none), (4, none), (5, none), (6, none), (7, some [0]), (8, none), (9, none)] hMixed (by kernel_rfl) ?_
      iterate 3 refine WX2 ?_
      refine ZT rfl (rd_slice (l := m) rfl (KE (t := 26) rfl) rfl rfl (.inr ⟨_, _, _, rfl, rfl, rfl⟩) (.inl ⟨rfl, rfl⟩) (by omega) (by omega) (by omega)) ?_
      iterate 2 refine WX2 ?_
      refine ZT rfl (rd_slice (l := 0) (h := m) rfl (KE (t := 26) rfl) rfl rfl (.inl ⟨rfl, rfl⟩) (.inr ⟨_, _, _, rfl, rfl, rfl⟩) (by omega) (by omega) (by omega)) ?_
      refine at_ef rfl rfl (ef_copyo (news := List.replicate (min m (n - m)) [I 0, I 0]) rfl rfl (by decide) (KA (t := 26) rfl) rfl rfl (by simp; try omega) rfl rfl (by simp) (by simp; try omega) (rep_mid n m (min m (n - m)) _ (by omega))) ?_
      rintro _ _ ⟨hF, hH⟩
      simp only [List.set_cons_zero, List.set_cons_succ, List.cons_append, List.nil_append] at hH
      subst hF; subst hH
      refine ⟨ag_cons (by first | exact ag_rd rfl rfl rfl (rd_move rfl rfl) rfl) (ag_none), ?_⟩
      refine WQ ?_
      refine wk_of [some 0, some 1] (fun _ => [(7, .o 1 0 n n), (8, .c (I (m + min m (n - m) : Nat)))]) (fun _ => [.arr 39 2 1 [[I 0, I 0]], .arr 39 2 n (List.replicate n [I 0, I 0])]) (by decide) (ZNL hE) (fun _ => .cons rfl (.o rfl rfl) (.cons rfl (.c (by simp only [List.length_replicate]; rw [IntWalk.wrap64_in _ (by omega)]; simp)) .nil)) ZCH (fun _ => ?_)
      exact ⟨n - (m + min m (n - m)), by omega, m + min m (n - m), by omega, by omega, rfl, rfl⟩
    refine WA ?_
    exact aret_o [some 0, some 1] (fun _ => [.arr 39 2 1 [[I 0, I 0]], .arr 39 2 n (List.replicate n [I 0, I 0])]) rfl rfl rfl rfl rfl (by decide) (ZNK rfl) ZCH (fun _ => ⟨rfl, rfl⟩)
end Go.Proofs.YtdmeohgojdfmoaaGreat

/- slices.Repeat of one number. -/
namespace Go.Proofs.YtdmeohgojdfmoaaGreat
open Go Go.RowKit
set_option maxRecDepth 100000
/-- The first m of n are written. -/
def rI (z : Int) (n m : Nat) : List (List CV) := List.replicate m [I z] ++ List.replicate (n - m) [I 0]
theorem rI_len (z : Int) {n m : Nat} (h : m ≤ n) : (rI z n m).length = n := by simp [rI]; omega
theorem rI_zero (z : Int) (n : Nat) : rI z n 0 = List.replicate n [I 0] := by simp [rI]
theorem rI_all (z : Int) (n : Nat) : rI z n n = List.replicate n [I z] := by simp [rI]
theorem rI_take {z : Int} {n m k : Nat} (h : k ≤ m) : ((rI z n m).drop 0).take k = List.replicate k [I z] := by
  rw [List.drop_zero, rI, List.take_append_of_le_length (by simpa using h), List.take_replicate, Nat.min_eq_left h]
theorem rI_step {z : Int} {n m k : Nat} (h : m + k ≤ n) : (rI z n m).take (0 + m) ++ List.replicate k [I z] ++ (rI z n m).drop (0 + m + (List.replicate k [I z]).length) = rI z n (m + k) := by
  rw [Nat.zero_add, List.length_replicate]
  unfold rI
  rw [List.take_append_of_le_length (by simp), List.take_of_length_le (by simp), List.drop_append, List.drop_of_length_le (by simp), List.nil_append, List.length_replicate, List.drop_replicate, List.replicate_append_replicate]
  congr 2
  omega
theorem repeatI_a (z : Int) (n : Nat) (hn : n ≤ 1000000) : ACalls Tryz.prog 8 [.o 0 0 1 1, .c (I n)] [.arr 3 1 1 [[I z]]] fun u H => u = .o 1 0 n n ∧ H = [.arr 3 1 1 [[I z]], .arr 3 1 n (List.replicate n [I z])] := by
  refine acalls_of (N := 48) Tryz.func8 rfl rfl (by simp) fun E hE => ?_
  refine WA ?_
  refine WA ?_
  refine aw_cond_f rfl ?_
  refine ZZ ?_
  refine ZR ?_
  iterate 2 refine WX1 ?_
  refine ZA (rd_conv (r := ((1 : Nat) : Int)) (by kernel_rfl) Tryz.underlying75 rfl rfl rfl) ?_
  refine WX1 ?_
  refine ZA (rd_conv (r := (n : Int)) (by kernel_rfl) Tryz.underlying75 rfl rfl (wrap_u n hn)) ?_
  refine al_ef rfl (ef_call0 false (fun _ => mul_a n (by omega)) rfl .fn rfl (by decide) (by kernel_rfl) rfl (fun _ => C0 rfl) (by simp)) ?_
  rintro _ _ ⟨_, _, _, ⟨rfl, rfl⟩, hF, hH⟩
  (try simp only [nsl, Nat.reduceAdd, Nat.reduceLT, Nat.reduceSub] at hF); (try simp only [nsl, Nat.reduceAdd, Nat.reduceLT, Nat.reduceSub] at hH); subst hF; subst hH
  refine WE ?_
  refine WA ?_
  refine aw_cond_f rfl ?_
  refine ZZ ?_
  refine ZR ?_
  refine WX1 ?_
  refine ZA (rd_conv (r := (n : Int)) (by kernel_rfl) Tryz.underlying3 rfl rfl (wrap_i n hn)) ?_
  refine al_ef rfl (Zmak (l := n) (c := n) Tryz.underlying22 (KI (t := 3) rfl)) ?_
  rintro _ _ ⟨rfl, rfl⟩
  refine WE ?_
  rcases Nat.eq_zero_or_pos n with h0 | hp
  · refine ZR ?_
    iterate 2 refine WX1 ?_
    refine al_ef rfl (ef_copyo (news := []) (R2 := rI z n 0) rfl rfl (by decide) (KA (t := 22) rfl) rfl rfl (by simp) rfl rfl (by rw [h0]; rfl) (by rw [h0]; rfl) (by rw [rI_zero]; simp)) ?_
    rintro _ _ ⟨hF, hH⟩
    simp only [List.set_cons_zero, List.set_cons_succ, List.cons_append, List.nil_append] at hH
    subst hF; subst hH
    refine WE ?_
    refine aw_loopw (fun q F H => F = [(7, .o 1 0 n n), (8, .c (I (0 : Nat)))] ∧ H = [.arr 3 1 1 [[I z]], .arr 3 1 n (rI z n 0)]) ?_ ?_
    · refine wk_of [some 0, some 1] (fun _ => [(7, .o 1 0 n n), (8, .c (I (0 : Nat)))]) (fun _ => [.arr 3 1 1 [[I z]], .arr 3 1 n (rI z n 0)]) (by decide) (ZNL hE) ZCF ZCH (fun _ => ⟨0, rfl, rfl⟩)
    rintro q F H ⟨rfl, rfl⟩
    refine WA ?_
    refine aw_cond_f rfl ?_
    refine ZZ ?_
    refine WA ?_
    exact aret_o [some 0, some 1] (fun _ => [.arr 3 1 1 [[I z]], .arr 3 1 n (rI z n 0)]) rfl rfl rfl rfl rfl (by decide) (ZNK rfl) ZCH (fun _ => ⟨rfl, by rw [rI_zero, h0]; rfl⟩)
  · refine ZR ?_
    iterate 2 refine WX1 ?_
    refine al_ef rfl (ef_copyo (news := List.replicate 1 [I z]) (R2 := rI z n 1) rfl rfl (by decide) (KA (t := 22) rfl) rfl rfl (by simp) rfl rfl (by rw [Nat.min_eq_left (by omega)]; rfl) (by rw [Nat.min_eq_left (by omega)]; rfl) (by rw [← rI_zero z]; exact rI_step (m := 0) (by omega))) ?_
    rintro _ _ ⟨hF, hH⟩
    simp only [List.set_cons_zero, List.set_cons_succ, List.cons_append, List.nil_append] at hH
    subst hF; subst hH
    refine WE ?_
    refine aw_loopw (fun q F H => ∃ m : Nat, q + m = n ∧ 1 ≤ m ∧ F = [(7, .o 1 0 n n), (8, .c (I m))] ∧ H = [.arr 3 1 1 [[I z]], .arr 3 1 n (rI z n m)]) ?_ ?_
    · refine wk_of [some 0, some 1] (fun _ => [(7, .o 1 0 n n), (8, .c (I (1 : Nat)))]) (fun _ => [.arr 3 1 1 [[I z]], .arr 3 1 n (rI z n 1)]) (by decide) (ZNL hE) ZCF ZCH (fun _ => ⟨n - 1, 1, by omega, by omega, rfl, rfl⟩)
    rintro q F H ⟨m, hq, hm1, rfl, rfl⟩
    refine WA ?_
    refine aw_if rfl (fun hlt => ?_) (fun hge => ?_)
    · refine ZZ ?_
      refine aw_regionT [(0, none), (1, none), (2, none), (3, none), (4, none), (5, none), (6, none), (7, some [0]), (8, none), (9, none)] hMixed (by kernel_rfl) ?_
      iterate 3 refine WX2 ?_
      refine ZT rfl (rd_slice (l := m) rfl (KE (t := 22) rfl) rfl rfl (.inr ⟨_, _, _, rfl, rfl, rfl⟩) (.inl ⟨rfl, rfl⟩) (by omega) (by omega) (by omega)) ?_
      iterate 2 refine WX2 ?_
      refine ZT rfl (rd_slice (l := 0) (h := m) rfl (KE (t := 22) rfl) rfl rfl (.inl ⟨rfl, rfl⟩) (.inr ⟨_, _, _, rfl, rfl, rfl⟩) (by omega) (by omega) (by omega)) ?_
      refine at_ef rfl rfl (ef_copyo (news := List.replicate (min m (n - m)) [I z]) (R2 := rI z n (m + min m (n - m))) rfl rfl (by decide) (KA (t := 22) rfl) rfl rfl (by rw [rI_len _ (by omega)]; omega) rfl rfl (rI_take (by omega)) (by simp) (rI_step (by omega))) ?_
      rintro _ _ ⟨hF, hH⟩
      simp only [List.set_cons_zero, List.set_cons_succ, List.cons_append, List.nil_append] at hH
      subst hF; subst hH
      refine ⟨ag_cons (by first | exact ag_rd rfl rfl rfl (rd_move rfl rfl) rfl) (ag_none), ?_⟩
      refine WQ ?_
      refine wk_of [some 0, some 1] (fun _ => [(7, .o 1 0 n n), (8, .c (I (m + min m (n - m) : Nat)))]) (fun _ => [.arr 3 1 1 [[I z]], .arr 3 1 n (rI z n (m + min m (n - m)))]) (by decide) (ZNL hE) (fun _ => .cons rfl (.o rfl rfl) (.cons rfl (.c (by simp only [List.length_replicate]; rw [IntWalk.wrap64_in _ (by omega)]; simp)) .nil)) ZCH (fun _ => ?_)
      exact ⟨n - (m + min m (n - m)), by omega, m + min m (n - m), by omega, by omega, rfl, rfl⟩
    refine WA ?_
    obtain rfl : m = n := by omega
    exact aret_o [some 0, some 1] (fun _ => [.arr 3 1 1 [[I z]], .arr 3 1 m (rI z m m)]) rfl rfl rfl rfl rfl (by decide) (ZNK rfl) ZCH (fun _ => ⟨rfl, by rw [rI_all]⟩)
end Go.Proofs.YtdmeohgojdfmoaaGreat

/- The stream, by value: what it gives is a function of its numbers and its counter. -/
namespace Go.Proofs.YtdmeohgojdfmoaaGreat
open Go Go.RowKit
set_option maxRecDepth 100000
/-- What the stream gives next, below n. -/
def nextF (zs : List Int) (a n : Int) : Int := if zs.length = 0 then belowF ((a + 1) * 7919) n else belowF (wrap64 (belowF (zs.getD (a % zs.length).toNat 0) 1073741824 + wrap64 (a / zs.length * wrap64 (7919 + a % zs.length)))) n
theorem next_f (n : Int) (v : Value) (zs : List Int) (a : Int) (hs : StrOk zs) (h0 : 0 ≤ a) (h1 : a ≤ 1000000000) (hn : in64 n) :
    ACalls Tryz.prog 13 [.p 0 0 0, .c (I n)] [strm v zs a] fun u H => ∃ r : Int, u = .c (I r) ∧ H = [strm v zs (a + 1)] ∧ 0 ≤ r ∧ (1 ≤ n → r < n) ∧ r = nextF zs a n := by
  refine acalls_of (N := 64) Tryz.func13 rfl rfl (by simp) fun E hE => ?_
  unfold in64 at hn
  have hl := hs.len
  by_cases he : zs.length = 0
  · have h00 : zs = [] := List.eq_nil_of_length_eq_zero he
    subst h00
    repeat' (first
      | (with_reducible refine aw_seq ?_) | (with_reducible refine aseq_n ?_) | (with_reducible refine aseq_r ?_) | (with_reducible refine ablk_n ?_) | (with_reducible refine ablk_r ?_) | (with_reducible refine ablk_e ?_) | (with_reducible refine ablk_o rfl ?_) | (with_reducible refine aseq_e ?_) | (with_reducible refine aw_skip ?_) | (with_reducible refine aw_block ?_) | (with_reducible refine aw_ret ?_) | (with_reducible refine aw_exit ?_)
      | refine aw_cond_t rfl ?_ | refine aw_cond_f rfl ?_ | refine aw_if_t rfl (by assumption) ?_ | refine aw_if_f rfl (by assumption) ?_ | refine aw_if rfl (fun _ => ?_) (fun _ => ?_) | refine aw_cond rfl (fun _ => ?_) (fun _ => ?_)
      | (refine aw_region (id := 3) ?_
         refine WO ?_
         refine al_ef rfl (ef_call0 false (fun _ => below_a _ _) rfl .fn rfl (by decide) (by kernel_rfl) rfl (fun _g => .cons (.c rfl) (.cons (.c rfl) .nil)) (by simp)) ?_
         rintro _ _ ⟨_, _, _, ⟨rfl, rfl⟩, rfl, rfl⟩
         refine WE ?_)
      | (refine aw_regionT (id := 4) [(0, none), (1, none), (2, none), (3, none), (4, none), (5, none), (6, none), (7, none), (8, none), (9, none), (10, none), (11, none)] hMixed (by kernel_rfl) ?_
         refine WQ ?_)
      | (refine aw_regionT (id := 5) [(0, none), (1, none), (2, none), (3, none), (4, none), (5, none), (6, none), (7, none), (8, none), (9, none), (10, none), (11, none)] hMixed (by kernel_rfl) ?_
         refine WQ ?_)
      | (refine aw_region ?_; refine WE ?_))
    all_goals (refine aret_1 [some 0] _ rfl rfl rfl (by decide) (ZNK rfl) ZCH ?_)
    all_goals (obtain ⟨q1, q2⟩ := belowF_range ((a + 1) * 7919) n hn; exact ⟨_, rfl, rfl, q1, q2, rfl⟩)
  · have hp : 0 < zs.length := by omega
    refine WA ?_
    refine WA ?_
    refine WA ?_
    refine aw_if_f rfl (by simpa using he) ?_
    have e1 : (zs.map fun z => [I z]).length = zs.length := by simp
    have hq : ((zs.map fun z => [I z]).length : Int) = zs.length := by rw [e1]
    have hmod : 0 ≤ a % (zs.length : Int) := Int.emod_nonneg _ (by omega)
    have hmod2 : a % (zs.length : Int) < zs.length := Int.emod_lt_of_pos _ (by omega)
    refine ZZ ?_
    refine aw_regionT [(0, none), (1, none), (2, none), (3, none), (4, none), (5, none), (6, none), (7, none), (8, none), (9, none), (10, none), (11, none)] hMixed (by kernel_rfl) ?_
    refine WQ ?_
    refine ZZ ?_
    refine aw_regionT [(0, none), (1, none), (2, none), (3, none), (4, none), (5, none), (6, none), (7, none), (8, none), (9, none), (10, none), (11, none)] hMixed (by kernel_rfl) ?_
    refine WQ ?_
    obtain ⟨i, hi⟩ : ∃ i : Nat, a % (zs.length : Int) = i := ⟨(a % (zs.length : Int)).toNat, by omega⟩
    have hk : i < zs.length := by omega
    obtain ⟨z, hz0⟩ : ∃ z, zs[i]? = some z := ⟨_, List.getElem?_eq_getElem hk⟩
    have hrow : (zs.map fun z => [I z])[i]? = some [I z] := by rw [List.getElem?_map, hz0]; rfl
    refine ZR ?_
    iterate 5 refine WX1 ?_
    refine ZA (rd_indexq rfl (KE (t := 22) rfl) rfl rfl (i := i) (by rw [e1, show a + 1 - 1 = a from by omega]; exact hi) hrow rfl) ?_
    refine WO ?_
    refine al_ef rfl (ef_call0 false (fun _ => below_a _ _) rfl .fn rfl (by decide) (by kernel_rfl) rfl (fun _g => .cons (.c rfl) (.cons (.c rfl) .nil)) (by simp)) ?_
    rintro _ _ ⟨_, _, _, ⟨rfl, rfl⟩, rfl, rfl⟩
    refine WO ?_
    refine al_ef rfl (ef_call0 false (fun _ => below_a _ _) rfl .fn rfl (by decide) (by kernel_rfl) rfl (fun _g => .cons (.c rfl) (.cons (.c rfl) .nil)) (by simp)) ?_
    rintro _ _ ⟨_, _, _, ⟨rfl, rfl⟩, rfl, rfl⟩
    refine WE ?_
    all_goals (refine aret_1 [some 0] _ rfl rfl rfl (by decide) (ZNK rfl) ZCH ?_)
    all_goals (refine ⟨_, rfl, rfl, (belowF_range _ n hn).1, (belowF_range _ n hn).2, ?_⟩)
    all_goals (have hzd : zs.getD (a % (zs.length : Int)).toNat 0 = z := by rw [hi, Int.toNat_natCast, List.getD, hz0]; rfl)
    all_goals (rw [nextF, if_neg he, hzd, e1, show a + 1 - 1 = a from by omega])
theorem flip_f (n : Int) (v : Value) (zs : List Int) (a : Int) (hs : StrOk zs) (h0 : 0 ≤ a) (h1 : a ≤ 1000000000) (hn : in64 n) :
    ACalls Tryz.prog 10 [.p 0 0 0, .c (I n)] [strm v zs a] fun u H => ∃ b : Bool, u = .c (B b) ∧ H = [strm v zs (a + 1)] ∧ b = decide (nextF zs a n = 0) := by
  unfold in64 at hn
  refine acalls_of (N := 9) Tryz.func10 rfl rfl (by simp) fun E hE => ?_
  repeat' (first
    | (with_reducible refine aw_seq ?_) | (with_reducible refine aseq_n ?_) | (with_reducible refine aseq_r ?_) | (with_reducible refine ablk_n ?_) | (with_reducible refine ablk_r ?_) | (with_reducible refine ablk_e ?_) | (with_reducible refine ablk_o rfl ?_) | (with_reducible refine aseq_e ?_) | (with_reducible refine aw_skip ?_) | (with_reducible refine aw_block ?_) | (with_reducible refine aw_ret ?_) | (with_reducible refine aw_exit ?_)
    | refine aw_cond_t rfl ?_ | refine aw_cond_f rfl ?_ | refine aw_if_t rfl (by assumption) ?_ | refine aw_if_f rfl (by assumption) ?_ | refine aw_if rfl (fun _ => ?_) (fun _ => ?_) | refine aw_cond rfl (fun _ => ?_) (fun _ => ?_)
    | (refine aw_region (id := 1) ?_
       refine WO ?_
       refine al_ef rfl (ef_callm false (fun _ => next_f _ _ _ _ hs (by omega) (by omega) (by simp only [in64]; omega)) rfl .fn rfl (by decide) (by kernel_rfl) rfl rfl (fun _g => .cons (.p rfl) (.cons (.c rfl) .nil)) (fun _g => .cons (.c rfl) (.cons (.c rfl) .nil)) (by simp)) ?_
       rintro F1 H1 ⟨_, _, _, _, ⟨r, rfl, hq, hr1, hr2, hrv⟩, hF, hH⟩
       injection hq with hq1 hq2; subst hq1; subst hq2
       (try simp only [nsl, Nat.reduceAdd, Nat.reduceLT, Nat.reduceSub] at hF); (try simp only [nsl, Nat.reduceAdd, Nat.reduceLT, Nat.reduceSub] at hH); subst hF; subst hH
       refine WE ?_)
    | (refine aw_region ?_; refine WE ?_))
  all_goals (refine aret_1 [some 0] _ rfl rfl rfl (by decide) (ZNK rfl) ZCH ?_)
  all_goals exact ⟨_, rfl, rfl, by rw [← hrv]⟩
def rangeF (zs : List Int) (a lo hi : Int) : Int × Int := if hi < lo then (lo, a) else (lo + nextF zs a (hi - lo + 1), a + 1)
theorem range_f (lo hi : Int) (v : Value) (zs : List Int) (a : Int) (hs : StrOk zs) (h0 : 0 ≤ a) (h1 : a ≤ 1000000000) (h2 : -4000000000000000000 ≤ lo) (h3 : lo ≤ 4000000000000000000) (h4 : -4000000000000000000 ≤ hi) (h5 : hi ≤ 4000000000000000000) :
    ACalls Tryz.prog 11 [.p 0 0 0, .c (I lo), .c (I hi)] [strm v zs a] fun u H => ∃ r a', u = .c (I r) ∧ H = [strm v zs a'] ∧ a ≤ a' ∧ a' ≤ a + 1 ∧ lo ≤ r ∧ (lo ≤ hi → r ≤ hi) ∧ (hi < lo → r = lo) ∧ (r, a') = rangeF zs a lo hi := by
  refine acalls_of (N := 19) Tryz.func11 rfl rfl (by simp) fun E hE => ?_
  repeat' (first
    | (with_reducible refine aw_seq ?_) | (with_reducible refine aseq_n ?_) | (with_reducible refine aseq_r ?_) | (with_reducible refine ablk_n ?_) | (with_reducible refine ablk_r ?_) | (with_reducible refine ablk_e ?_) | (with_reducible refine ablk_o rfl ?_) | (with_reducible refine aseq_e ?_) | (with_reducible refine aw_skip ?_) | (with_reducible refine aw_block ?_) | (with_reducible refine aw_ret ?_) | (with_reducible refine aw_exit ?_)
    | refine aw_cond_t rfl ?_ | refine aw_cond_f rfl ?_ | refine aw_if_t rfl (by assumption) ?_ | refine aw_if_f rfl (by assumption) ?_ | refine aw_if rfl (fun _ => ?_) (fun _ => ?_) | refine aw_cond rfl (fun _ => ?_) (fun _ => ?_)
    | (refine aw_region (id := 3) ?_
       refine WO ?_
       refine al_ef rfl (ef_callm false (fun _ => next_f _ _ _ _ hs (by omega) (by omega) (by simp only [in64]; omega)) rfl .fn rfl (by decide) (by kernel_rfl) rfl rfl (fun _g => .cons (.p rfl) (.cons (.c rfl) .nil)) (fun _g => .cons (.c rfl) (.cons (.c rfl) .nil)) (by simp)) ?_
       rintro F1 H1 ⟨_, _, _, _, ⟨r, rfl, hq, hr1, hr2, hrv⟩, hF, hH⟩
       injection hq with hq1 hq2; subst hq1; subst hq2
       (try simp only [nsl, Nat.reduceAdd, Nat.reduceLT, Nat.reduceSub] at hF); (try simp only [nsl, Nat.reduceAdd, Nat.reduceLT, Nat.reduceSub] at hH); subst hF; subst hH
       refine WE ?_)
    | (refine aw_region ?_; refine WE ?_))
  all_goals (refine aret_1 [some 0] _ rfl rfl rfl (by decide) (ZNK rfl) ZCH ?_)
  all_goals (refine ⟨_, _, rfl, rfl, by omega, by omega, by omega, by omega, by omega, ?_⟩)
  all_goals first | (rw [rangeF, if_pos (by omega)]; done) | (rw [rangeF, if_neg (by omega), ← hrv])
def pickF (zs : List Int) (a : Int) (vals : List Int) : Int := vals.getD (nextF zs a vals.length).toNat 0
theorem pick_f (vals : List Int) (q v : Value) (zs : List Int) (a : Int) (hs : StrOk zs) (h0 : 0 ≤ a) (h1 : a ≤ 1000000000) (hv : vals ≠ []) (hl : vals.length ≤ 1000000) :
    ACalls Tryz.prog 12 [.p 0 0 0, .c (.r q (vals.map fun z => [I z]))] [strm v zs a] fun u H => ∃ r, u = .c (I r) ∧ H = [strm v zs (a + 1)] ∧ r ∈ vals ∧ r = pickF zs a vals := by
  have hp : 0 < vals.length := List.length_pos_iff.2 hv
  have e1 : (vals.map fun z => [I z]).length = vals.length := by simp
  refine acalls_of (N := 12) Tryz.func12 rfl rfl (by simp) fun E hE => ?_
  refine WA ?_
  refine WR ?_
  refine al_ef rfl (ef_callm false (fun _ => next_f _ _ _ _ hs (by omega) (by omega) (by simp only [in64]; omega)) rfl .fn rfl (by decide) (by kernel_rfl) rfl rfl (fun _g => .cons (.p rfl) (.cons (.c rfl) .nil)) (fun _g => .cons (.c rfl) (.cons (.c rfl) .nil)) (by simp)) ?_
  rintro F1 H1 ⟨_, _, _, _, ⟨r, rfl, hq, hr1, hr2, hrv⟩, hF, hH⟩
  injection hq with hq1 hq2; subst hq1; subst hq2
  (try simp only [nsl, Nat.reduceAdd, Nat.reduceLT, Nat.reduceSub] at hF); (try simp only [nsl, Nat.reduceAdd, Nat.reduceLT, Nat.reduceSub] at hH); subst hF; subst hH
  obtain ⟨i, rfl⟩ : ∃ i : Nat, r = i := ⟨r.toNat, by omega⟩
  have hk : i < vals.length := by have := hr2 (by rw [e1]; omega); rw [e1] at this; omega
  obtain ⟨z, hz0⟩ : ∃ z, vals[i]? = some z := ⟨_, List.getElem?_eq_getElem hk⟩
  have hrow : (vals.map fun z => [I z])[i]? = some [I z] := by rw [List.getElem?_map, hz0]; rfl
  refine ZA (rd_indexq rfl (KE (t := 22) rfl) rfl rfl (i := i) rfl hrow rfl) ?_
  refine WE ?_
  refine aret_1 [some 0] _ rfl rfl rfl (by decide) (ZNK rfl) ZCH ?_
  refine ⟨_, rfl, rfl, List.mem_of_getElem? hz0, ?_⟩
  rw [e1] at hrv
  rw [pickF, ← hrv, Int.toNat_natCast, List.getD, hz0]; rfl
def oddF (zs : List Int) (a lo hi : Int) : Int × Int := if nextF zs a 12 = 0 then (pickF zs (a + 1) [lo - 1, hi + 1, lo, hi, -1099511627776, 1099511627776], a + 1 + 1) else rangeF zs (a + 1) lo hi
end Go.Proofs.YtdmeohgojdfmoaaGreat
