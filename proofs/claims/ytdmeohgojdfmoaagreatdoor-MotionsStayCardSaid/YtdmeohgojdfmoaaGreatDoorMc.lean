/- Whole roots, what a leg lets one reach, peaks and what a leg takes, of the program and of its document, by value. -/
import Derived.Test.YtdmeohgojdfmoaaGreatDoorMb
set_option linter.unusedSimpArgs false
set_option linter.unusedVariables false
namespace Go.Proofs.YtdmeohgojdfmoaaGreatDoor
open Go Go.RowKit
set_option maxRecDepth 100000
section
variable {P : Program} {N : Nat} {E : Env} {F : Fm} {H : List OB} {o : Oper} {t yt : TypeId} {x y : Operand} {m n z : Int}
theorem rd_subz (ho : o.op = .binOp .sub t x y yt) (hx : ev F x = some (.c (.s (.int .i64 m)))) (hy : ev F y = some (.c (.s (.int .i64 n)))) (hz : m - n = z) (h : -9223372036854775808 ≤ z ∧ z ≤ 9223372036854775807) : Rd P N E o F H (.c (.s (.int .i64 z))) := by
  subst hz; exact rd_subn ho hx hy h
theorem rd_addz (ho : o.op = .binOp .add t x y yt) (hx : ev F x = some (.c (.s (.int .i64 m)))) (hy : ev F y = some (.c (.s (.int .i64 n)))) (hz : m + n = z) (h : -9223372036854775808 ≤ z ∧ z ≤ 9223372036854775807) : Rd P N E o F H (.c (.s (.int .i64 z))) := by
  subst hz; exact rd_addn ho hx hy h
end
theorem prod_b {a b A C : Int} (h0 : 0 ≤ a) (h1 : a ≤ A) (h2 : 0 ≤ b) (h3 : b ≤ C) : 0 ≤ a * b ∧ a * b ≤ A * C := by
  refine ⟨Int.mul_nonneg h0 h2, ?_⟩
  have h4 : a * b ≤ A * b := Int.mul_le_mul_of_nonneg_right h1 h2
  have h5 : A * b ≤ A * C := Int.mul_le_mul_of_nonneg_left h3 (by omega)
  omega
theorem sq_nn (a : Int) : 0 ≤ a * a := by
  by_cases h : 0 ≤ a
  · exact Int.mul_nonneg h h
  · have := Int.mul_nonneg (a := -a) (b := -a) (by omega) (by omega)
    rwa [Int.neg_mul_neg] at this
theorem sq_b {a : Int} (h0 : -100000 ≤ a) (h1 : a ≤ 100000) : 0 ≤ a * a ∧ a * a ≤ 10000000000 := by
  by_cases h : 0 ≤ a
  · have := prod_b h h1 h h1; omega
  · have := prod_b (a := -a) (b := -a) (A := 100000) (C := 100000) (by omega) (by omega) (by omega) (by omega)
    rw [Int.neg_mul_neg] at this; omega
theorem dis_b {ch : Int} {x : Leg} (hc : 1 ≤ ch ∧ ch ≤ 10000000) (hx : x.good) : 2 ≤ 2 * ch * x.long ∧ 2 * ch * x.long ≤ 4000000000000 := by
  obtain ⟨h1, h2, _⟩ := hx
  have := prod_b (a := 2 * ch) (b := x.long) (A := 20000000) (C := 200000) (by omega) (by omega) (by omega) h2
  have h3 : 2 * ch * 1 ≤ 2 * ch * x.long := Int.mul_le_mul_of_nonneg_left h1 (by omega)
  omega
theorem root1_a (n : Int) (h0 : 0 ≤ n) (h1 : n < 4611686018427387904) : ACalls Tryz.prog 122 [.c (I n)] [] fun u H => u = .c (I (rootI n)) ∧ H = [] := by
  refine acalls_of (N := 22) Tryz.func122 rfl rfl (by simp) fun E hE => ?_
  refine WA ?_
  refine WA ?_
  refine aw_loopw (fun m F H => ∃ low high : Int, m = (high - low).toNat ∧ 0 ≤ low ∧ low < high ∧ high ≤ 2147483648 ∧ low * low ≤ n ∧ n < high * high ∧ F = [(0, .c (I n)), (3, .c (I low)), (4, .c (I high))] ∧ H = []) ?_ ?_
  · refine wk_of [] (fun _ => [(0, .c (I n)), (3, .c (I 0)), (4, .c (I 2147483648))]) (fun _ => _) (by decide) (ZNL hE) ZCF (fun _ => .nil) (fun _ => ?_)
    exact ⟨_, 0, 2147483648, rfl, by omega, by omega, by omega, by omega, by omega, rfl, rfl⟩
  rintro m F H ⟨low, high, hm, h2, h3, h4, h5, h6, rfl, rfl⟩
  refine WA ?_
  refine aw_if rfl (fun hlt => ?_) (fun hge => ?_)
  · have hq := prod_b (a := (low + high) / 2) (b := (low + high) / 2) (A := 3000000000) (C := 3000000000) (by omega) (by omega) (by omega) (by omega)
    refine WA ?_
    refine WA ?_
    refine aw_if rfl (fun hle => ?_) (fun hgt => ?_)
    · refine WA ?_
      refine wk_of [] (fun _ => [(0, .c (I n)), (3, .c (I ((low + high) / 2))), (4, .c (I high))]) (fun _ => _) (by decide) (ZNL hE) ZCF (fun _ => .nil) (fun _ => ?_)
      exact ⟨(high - (low + high) / 2).toNat, by omega, (low + high) / 2, high, rfl, by omega, by omega, by omega, hle, h6, rfl, rfl⟩
    · refine WA ?_
      refine wk_of [] (fun _ => [(0, .c (I n)), (3, .c (I low)), (4, .c (I ((low + high) / 2)))]) (fun _ => _) (by decide) (ZNL hE) ZCF (fun _ => .nil) (fun _ => ?_)
      exact ⟨((low + high) / 2 - low).toNat, by omega, low, (low + high) / 2, rfl, by omega, by omega, by omega, h5, by omega, rfl, rfl⟩
  obtain rfl : high = low + 1 := by omega
  refine WA ?_
  exact aret_1 [] _ rfl rfl rfl (by decide) (ZNK rfl) (fun _ => .nil) ⟨by rw [← rootI_uniq h2 h5 h6], rfl⟩
theorem reach_a (f : Int) (x : Leg) (ch : Int) (h0 : 0 ≤ f) (h1 : f ≤ 100000) (hx : x.good) (hc : 1 ≤ ch ∧ ch ≤ 10000000) : ACalls Tryz.prog 82 [.c (I f), .a (x.row.map .c), .c (I ch)] [] fun u H => u = .c (I (rt f (2 * ch * x.long))) ∧ H = [] := by
  have hs := sq_b (a := f) (by omega) h1
  have hd := dis_b hc hx
  obtain ⟨hx1, hx2, hx3, hx4⟩ := hx
  refine acalls_of (N := 17) Tryz.func82 rfl rfl (by simp) fun E hE => ?_
  refine WA ?_
  refine WR ?_
  refine al_ef rfl (ef_call0 false (fun _ => root1_a (f * f + 2 * ch * x.long) (by omega) (by omega)) rfl .fn rfl (by decide) (by kernel_rfl) rfl (fun _ => C0 rfl) (by simp)) ?_
  rintro _ _ ⟨_, _, _, ⟨rfl, rfl⟩, hF, hH⟩
  (try simp only [nsl, Nat.reduceAdd, Nat.reduceLT, Nat.reduceSub] at hF); (try simp only [nsl, Nat.reduceAdd, Nat.reduceLT, Nat.reduceSub] at hH); subst hF; subst hH
  refine WE ?_
  exact aret_1 [] _ rfl rfl rfl (by decide) (ZNK rfl) (fun _ => .nil) ⟨rfl, rfl⟩
def peakF (f t : Int) (x : Leg) (ch : Int) : Int := min x.limit (rootI ((f * f + t * t + 2 * ch * x.long) / 2))
theorem peakF_b {f t : Int} {x : Leg} {ch : Int} (hx : x.good) (hc : 1 ≤ ch ∧ ch ≤ 10000000) : 1 ≤ peakF f t x ch ∧ peakF f t x ch ≤ x.limit := by
  have hd := dis_b hc hx
  have h1 := sq_nn f
  have h2 := sq_nn t
  have := le_rootI (n := (f * f + t * t + 2 * ch * x.long) / 2) (r := 1) (by omega) (by omega)
  unfold peakF
  unfold Leg.good at hx
  omega
theorem peak1_a (f t : Int) (x : Leg) (ch : Int) (h0 : 0 ≤ f ∧ f ≤ 100000) (h1 : 0 ≤ t ∧ t ≤ 100000) (hx : x.good) (hc : 1 ≤ ch ∧ ch ≤ 10000000) : ACalls Tryz.prog 69 [.c (I f), .c (I t), .a (x.row.map .c), .c (I ch)] [] fun u H => u = .c (I (peakF f t x ch)) ∧ H = [] := by
  have hs := sq_b (a := f) (by omega) h0.2
  have ht := sq_b (a := t) (by omega) h1.2
  have hd := dis_b hc hx
  obtain ⟨hx1, hx2, hx3, hx4⟩ := hx
  refine acalls_of (N := 27) Tryz.func69 rfl rfl (by simp) fun E hE => ?_
  refine WA ?_
  refine ZZ ?_
  refine aw_regionT [(0, none), (1, none), (2, none), (3, none), (4, none), (5, none), (6, none), (7, none), (8, none), (9, none), (10, none), (11, none), (12, none), (13, none), (14, none), (15, none), (16, some [0, 1]), (17, none), (18, none)] hMixed (by kernel_rfl) ?_
  refine WP ?_
  refine at_ef rfl rfl (ef_call0 false (fun _ => root1_a ((f * f + t * t + 2 * ch * x.long) / 2) (by omega) (by omega)) rfl .fn rfl (by decide) (by kernel_rfl) rfl (fun _ => C0 rfl) (by simp)) ?_
  rintro _ _ ⟨_, _, _, ⟨rfl, rfl⟩, hF, hH⟩
  (try simp only [nsl, Nat.reduceAdd, Nat.reduceLT, Nat.reduceSub] at hF); (try simp only [nsl, Nat.reduceAdd, Nat.reduceLT, Nat.reduceSub] at hH); subst hF; subst hH
  refine ⟨ag_cons (by first | exact ag_rd rfl rfl rfl (ZX (KF (t := 38) (f := 1) rfl rfl)) rfl) (ag_cons (by first | exact ag_rd rfl rfl rfl (ZL (KK (t := 3) rfl)) rfl) (ag_none)), ?_⟩
  refine WQ ?_
  exact aret_1 [] _ rfl rfl rfl (by decide) (ZNK rfl) (fun _ => .nil) ⟨rfl, rfl⟩
theorem abs1_a (n : Int) (h : -9223372036854775807 ≤ n ∧ n ≤ 9223372036854775807) : ACalls Tryz.prog 134 [.c (I n)] [] fun u H => u = .c (I (max n (-n))) ∧ H = [] := by
  refine acalls_of (N := 7) Tryz.func134 rfl rfl (by simp) fun E hE => ?_
  refine WA ?_
  refine WA ?_
  exact aret_1 [] _ rfl rfl rfl (by decide) (ZNK rfl) (fun _ => .nil) ⟨rfl, rfl⟩
def numF (f t : Int) (x : Leg) (ch : Int) : Int := 1000000 * ((peakF f t x ch - f) * (peakF f t x ch - f) + (peakF f t x ch - t) * (peakF f t x ch - t) + 2 * ch * x.long)
def denF (f t : Int) (x : Leg) (ch : Int) : Int := 2 * ch * peakF f t x ch
theorem taken_a (f t : Int) (x : Leg) (ch : Int) (h0 : 0 ≤ f ∧ f ≤ 100000) (h1 : 0 ≤ t ∧ t ≤ 100000) (hx : x.good) (hc : 1 ≤ ch ∧ ch ≤ 10000000) : ACalls Tryz.prog 68 [.c (I f), .c (I t), .a (x.row.map .c), .c (I ch)] [] fun u H => u = .t [.c (I (numF f t x ch)), .c (I (denF f t x ch))] ∧ H = [] := by
  have hd := dis_b hc hx
  have hp := peakF_b (f := f) (t := t) hx hc
  have hx' := hx
  obtain ⟨hx1, hx2, hx3, hx4⟩ := hx'
  have hs := sq_b (a := peakF f t x ch - f) (by omega) (by omega)
  have ht := sq_b (a := peakF f t x ch - t) (by omega) (by omega)
  have hpb := prod_b (a := 2 * ch) (b := peakF f t x ch) (A := 20000000) (C := 100000) (by omega) (by omega) (by omega) (by omega)
  refine acalls_of (N := 42) Tryz.func68 rfl rfl (by simp) fun E hE => ?_
  refine WA ?_
  refine WR ?_
  refine al_ef rfl (ef_call0 false (fun _ => peak1_a f t x ch h0 h1 hx hc) rfl .fn rfl (by decide) (by kernel_rfl) rfl (fun _ => C0 rfl) (by simp)) ?_
  rintro _ _ ⟨_, _, _, ⟨rfl, rfl⟩, hF, hH⟩
  (try simp only [nsl, Nat.reduceAdd, Nat.reduceLT, Nat.reduceSub] at hF); (try simp only [nsl, Nat.reduceAdd, Nat.reduceLT, Nat.reduceSub] at hH); subst hF; subst hH
  refine WE ?_
  refine WA ?_
  exact aret_2 [] _ rfl rfl rfl rfl rfl (by decide) (ZNK rfl) (fun _ => .nil) ⟨rfl, rfl⟩
end Go.Proofs.YtdmeohgojdfmoaaGreatDoor
