/- Fractions in lowest terms, rounding, and how long a leg takes exactly, of the program and of its document, by value. -/
import Derived.Test.YtdmeohgojdfmoaaGreatDoorMc
set_option linter.unusedSimpArgs false
set_option linter.unusedVariables false
namespace Go.Proofs.YtdmeohgojdfmoaaGreatDoor
open Go Go.RowKit
set_option maxRecDepth 100000
section
variable {P : Program} {N : Nat} {E : Env} {F : Fm} {H : List OB} {o : Oper} {t yt : TypeId} {x y : Operand} {m n z : Int}
theorem rd_quoz (ho : o.op = .binOp .quo t x y yt) (hx : ev F x = some (.c (.s (.int .i64 m)))) (hy : ev F y = some (.c (.s (.int .i64 n)))) (h0 : n ≠ 0) (hz : wrap64 (m.tdiv n) = z) : Rd P N E o F H (.c (.s (.int .i64 z))) := by
  subst hz; exact rd_quo ho hx hy h0
theorem rd_remz (ho : o.op = .binOp .rem t x y yt) (hx : ev F x = some (.c (.s (.int .i64 m)))) (hy : ev F y = some (.c (.s (.int .i64 n)))) (h0 : n ≠ 0) (hz : m.tmod n = z) : Rd P N E o F H (.c (.s (.int .i64 z))) := by
  subst hz; exact rd_rem ho hx hy h0
end
def gcdI (a b : Int) : Nat := Nat.gcd a.toNat b.toNat
abbrev lowR (a b : Int) : List CV := [I (a / gcdI a b), I (b / gcdI a b)]
theorem gcd_next (a b : Nat) : Nat.gcd b (a % b) = Nat.gcd a b := by
  rw [Nat.gcd_comm a b, Nat.gcd_rec b a, Nat.gcd_comm]
theorem low1_a (num den : Int) (h0 : 0 ≤ num) (h1 : num ≤ 9223372036854775807) (h2 : 1 ≤ den) (h3 : den ≤ 9223372036854775807) : ACalls Tryz.prog 291 [.c (I num), .c (I den)] [] fun u H => u = .a ((lowR num den).map .c) ∧ H = [] := by
  obtain ⟨p, rfl⟩ := Int.eq_ofNat_of_zero_le h0
  obtain ⟨q, rfl⟩ := Int.eq_ofNat_of_zero_le (Int.le_trans (by decide) h2)
  refine acalls_of (N := 22) Tryz.func291 rfl rfl (by simp) fun E hE => ?_
  refine WA ?_
  refine WA ?_
  refine aw_loopw (fun m F H => ∃ (a : Nat), a ≤ 9223372036854775807 ∧ m ≤ 9223372036854775807 ∧ Nat.gcd a m = Nat.gcd p q ∧ F = [(0, .c (I p)), (1, .c (I q)), (4, .p 0 0 0), (5, .c (I a)), (6, .c (I m))] ∧ H = [.box [.c (I 0), .c (I 0)]]) ?_ ?_
  · refine wk_of [some 0] (fun _ => [(0, .c (I p)), (1, .c (I q)), (4, .p 0 0 0), (5, .c (I p)), (6, .c (I q))]) (fun _ => _) (by decide) (ZNL hE) ZCF ZCH (fun _ => ?_)
    exact ⟨q, p, by omega, by omega, rfl, rfl, rfl⟩
  rintro m F H ⟨a, ha, hb, hg, rfl, rfl⟩
  refine WA ?_
  refine aw_if rfl (fun hne => ?_) (fun he => ?_)
  · have hlt := Nat.mod_lt a (show 0 < m by omega)
    refine ZZ ?_
    refine aw_regionT [(0, none), (1, none), (2, none), (3, none), (4, none), (5, none)] hMixed (by kernel_rfl) ?_
    refine WQ ?_
    refine wk_of [some 0] (fun _ => [(0, .c (I p)), (1, .c (I q)), (4, .p 0 0 0), (5, .c (I m)), (6, .c (I (a % m : Nat)))]) (fun _ => _) (by decide) (ZNL hE) ZCF ZCH (fun _ => ?_)
    exact ⟨a % m, hlt, m, by omega, by omega, by rw [gcd_next]; exact hg, rfl, rfl⟩
  obtain rfl : m = 0 := by omega
  rw [Nat.gcd_zero_right] at hg
  have hg1 : 0 < a := by rw [hg]; exact Nat.gcd_pos_of_pos_right _ (by omega)
  refine ZZ ?_
  refine aw_regionT [(0, none), (1, none), (2, none), (3, none), (4, none), (5, none), (6, none), (7, some [])] hMixed (by kernel_rfl) ?_
  refine WQ ?_
  refine aret_a [] [] rfl (KK (t := 291) rfl) rfl (Cells.box rfl) (by simp) (by (try simp only [nm, putL, Nat.reduceAdd, cellsOf, cvOf]) <;> rfl) (by decide) (ZNK rfl) (fun _ => C0 rfl) (fun _ => .nil) ⟨?_, rfl⟩
  rw [hg]; rfl
abbrev exactR (f t : Int) (x : Leg) (ch : Int) : List CV := lowR (numF f t x ch) (denF f t x ch)
theorem numF_b {f t : Int} {x : Leg} {ch : Int} (h0 : 0 ≤ f ∧ f ≤ 100000) (h1 : 0 ≤ t ∧ t ≤ 100000) (hx : x.good) (hc : 1 ≤ ch ∧ ch ≤ 10000000) : 0 ≤ numF f t x ch ∧ numF f t x ch ≤ 5000000000000000000 ∧ 1 ≤ denF f t x ch ∧ denF f t x ch ≤ 2000000000000 := by
  have hd := dis_b hc hx
  have hp := peakF_b (f := f) (t := t) hx hc
  obtain ⟨hx1, hx2, hx3, hx4⟩ := hx
  have hs := sq_b (a := peakF f t x ch - f) (by omega) (by omega)
  have ht := sq_b (a := peakF f t x ch - t) (by omega) (by omega)
  have hpb := prod_b (a := 2 * ch) (b := peakF f t x ch) (A := 20000000) (C := 100000) (by omega) (by omega) (by omega) (by omega)
  have h3 : 2 * ch * 1 ≤ 2 * ch * peakF f t x ch := Int.mul_le_mul_of_nonneg_left hp.1 (by omega)
  unfold numF denF
  omega
theorem num_eq (p f t d : Int) : 1000000 * (2 * p * (2 * p - f - t) + (d - (2 * p * p - f * f - t * t))) = 1000000 * ((p - f) * (p - f) + (p - t) * (p - t) + d) := by
  grind
theorem prod_abs {a b A C : Int} (h0 : 0 ≤ a) (h1 : a ≤ A) (h2 : -C ≤ b) (h3 : b ≤ C) : -(A * C) ≤ a * b ∧ a * b ≤ A * C := by
  by_cases h : 0 ≤ b
  · have := prod_b h0 h1 h h3
    have := Int.mul_nonneg (a := A) (b := C) (by omega) (by omega)
    omega
  · have := prod_b (b := -b) (C := C) h0 h1 (by omega) (by omega)
    rw [Int.mul_neg] at this
    omega
end Go.Proofs.YtdmeohgojdfmoaaGreatDoor
