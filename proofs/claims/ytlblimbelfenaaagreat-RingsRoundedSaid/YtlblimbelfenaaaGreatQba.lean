/- The reference's turns and ways that meet, by value. -/
import Derived.Test.YtlblimbelfenaaaGreatQaz
import Derived.Test.YtlblimbelfenaaaGreatQao
import Derived.Test.YtlblimbelfenaaaGreatQam
set_option linter.unusedSimpArgs false
set_option linter.unusedVariables false
/- Plain law: two ways to say that ways meet agree. -/
namespace Go.Proofs.YtlblimbelfenaaaGreat
def MeP (a b c d : P2) : Prop := (¬ (max a.x b.x < min c.x d.x) ∧ ¬ (max c.x d.x < min a.x b.x)) ∧ (¬ (max a.y b.y < min c.y d.y) ∧ ¬ (max c.y d.y < min a.y b.y)) ∧ Acr (trn a b c) (trn a b d) ∧ Acr (trn c d a) (trn c d b)
theorem metB_iff (a b c d : P2) : metB a b c d = true ↔ MeP a b c d := by
 unfold metB apaB acrB MeP Acr
 simp only [Bool.and_eq_true, Bool.not_eq_true', Bool.or_eq_false_iff, decide_eq_false_iff_not, decide_eq_true_eq]
 exact ⟨fun ⟨⟨h1, h2⟩, h3, h4⟩ => ⟨h1, h2, h3, h4⟩, fun ⟨h1, h2, h3, h4⟩ => ⟨⟨h1, h2⟩, h3, h4⟩⟩
theorem MeP.swap {a b c d : P2} (h : MeP a b c d) : MeP c d a b := by
 obtain ⟨⟨h1, h2⟩, ⟨h3, h4⟩, h5, h6⟩ := h
 exact ⟨⟨h2, h1⟩, ⟨h4, h3⟩, h6, h5⟩
theorem me_of_on {a b c d : P2} (h : OnP a c d) : MeP a b c d := by
 obtain ⟨h0, hx, hy⟩ := h
 have j1 := i1 a b c d
 have j2 := i2 a b c d
 have j3 := i3 a b c d
 have j4 := i4 a b c d
 have j5 := i5 a b c d
 have e1 : c = d → trn a b c = trn a b d := fun e => by rw [e]
 have e2 : c = d → a = c := fun e => by
  subst e; unfold InR at hx hy
  exact p2_ext (by omega) (by omega)
 have e3 : a = c → trn a b c = 0 := fun e => by subst e; unfold trn; grind
 rw [h0] at j1 j2 j3 j4 j5
 refine ⟨?_, ?_, ?_, ?_⟩
 ·unfold InR at hx; omega
 ·unfold InR at hy; omega
 ·by_cases hne : c = d
  ·rw [← e1 hne, e3 (e2 hne)]; unfold Acr; omega
  ·by_cases hD : trn a b c = trn a b d
   ·have h1 : trn a b c = 0 := by
     rw [← hD, Int.sub_self, Int.mul_zero, Int.mul_zero] at j4 j5
     by_cases hxx : c.x = d.x
     ·have hyy : c.y ≠ d.y := fun e => hne (p2_ext hxx e)
      rcases Int.mul_eq_zero.1 j5 with h | h
      ·omega
      ·exact h
     ·rcases Int.mul_eq_zero.1 j4 with h | h
      ·omega
      ·exact h
    rw [← hD, h1]; unfold Acr; omega
   ·have hA : Acr (trn a b d) (trn a b c) := by
     refine acr_on (p := c) (q := d) (e := a) ?_ ?_ hx hy hne
     ·have : trn c d b = trn a b c - trn a b d := by omega
      rw [this] at j2
      grind
     ·have : trn c d b = trn a b c - trn a b d := by omega
      rw [this] at j3
      grind
    unfold Acr at hA ⊢; omega
 ·rw [h0]; unfold Acr; omega
theorem MeP.flip {a b c d : P2} (h : MeP b a c d) : MeP a b c d := by
 obtain ⟨h1, h2, h3, h4⟩ := h
 have e : ∀ p : P2, trn a b p = -trn b a p := fun p => by unfold trn; grind
 refine ⟨?_, ?_, ?_, ?_⟩
 ·omega
 ·omega
 ·rw [e, e]; unfold Acr at h3 ⊢; omega
 ·unfold Acr at h4 ⊢; omega
theorem me_of_mt {a b c d : P2} (h : MtP a b c d) : MeP a b c d := by
 rcases h with h | h | h | h | ⟨h1, h2⟩
 ·exact me_of_on h
 ·exact (me_of_on h).flip
 ·exact (me_of_on h).swap
 ·exact (me_of_on h).flip.swap
 ·have j1 := i1 a b c d
  have j2 := i2 a b c d
  have j3 := i3 a b c d
  have a1 : Acr (trn a b c) (trn a b d) := by unfold Opp at h1; unfold Acr; omega
  have a2 : Acr (trn c d a) (trn c d b) := by unfold Opp at h2; unfold Acr; omega
  have hne : trn a b c ≠ trn a b d := by unfold Opp at h1; omega
  exact ⟨over j2 (by omega) hne a1 a2, over j3 (by omega) hne a1 a2, a1, a2⟩
theorem mt_of_me {a b c d : P2} (h : MeP a b c d) : MtP a b c d := by
 obtain ⟨⟨bx1, bx2⟩, ⟨by1, by2⟩, h3, h4⟩ := h
 have j1 := i1 a b c d
 have j2 := i2 a b c d
 have j3 := i3 a b c d
 unfold MtP
 by_cases hD : trn a b c = trn a b d
 ·-- all on one line
  have t1 : trn a b c = 0 := by unfold Acr at h3; omega
  have t2 : trn a b d = 0 := by omega
  have t3 : trn c d a = 0 := by unfold Acr at h4; omega
  have t4 : trn c d b = 0 := by omega
  by_cases hab : a.x = b.x
  ·by_cases hcd : c.x = d.x
   ·have k : InR c.y a.y b.y ∨ InR d.y a.y b.y ∨ InR a.y c.y d.y := by unfold InR; omega
    rcases k with k | k | k
    ·exact .inr (.inr (.inl ⟨t1, by unfold InR; omega, k⟩))
    ·exact .inr (.inr (.inr (.inl ⟨t2, by unfold InR; omega, k⟩)))
    ·exact .inl ⟨t3, by unfold InR; omega, k⟩
   ·have k : InR a.x c.x d.x := by unfold InR; omega
    exact .inl ⟨t3, k, inY t3 hcd k⟩
  ·by_cases hcd : c.x = d.x
   ·have k : InR c.x a.x b.x := by unfold InR; omega
    exact .inr (.inr (.inl ⟨t1, k, inY t1 hab k⟩))
   ·have k : InR c.x a.x b.x ∨ InR d.x a.x b.x ∨ InR a.x c.x d.x := by unfold InR; omega
    rcases k with k | k | k
    ·exact .inr (.inr (.inl ⟨t1, k, inY t1 hab k⟩))
    ·exact .inr (.inr (.inr (.inl ⟨t2, k, inY t2 hab k⟩)))
    ·exact .inl ⟨t3, k, inY t3 hcd k⟩
 ·have hD2 : trn c d a ≠ trn c d b := by omega
  by_cases t1 : trn a b c = 0
  ·refine .inr (.inr (.inl ⟨t1, ?_, ?_⟩))
   ·refine conv (t := trn c d a) (s := trn c d b) ?_ hD2 h4
    rw [← j1, ← j2, t1]; grind
   ·refine conv (t := trn c d a) (s := trn c d b) ?_ hD2 h4
    rw [← j1, ← j3, t1]; grind
  by_cases t2 : trn a b d = 0
  ·refine .inr (.inr (.inr (.inl ⟨t2, ?_, ?_⟩)))
   ·refine conv (t := trn c d a) (s := trn c d b) ?_ hD2 h4
    rw [← j1, ← j2, t2]; grind
   ·refine conv (t := trn c d a) (s := trn c d b) ?_ hD2 h4
    rw [← j1, ← j3, t2]; grind
  have hA : Acr (trn a b d) (trn a b c) := by unfold Acr at h3 ⊢; omega
  by_cases t3 : trn c d a = 0
  ·refine .inl ⟨t3, ?_, ?_⟩
   ·have : InR a.x d.x c.x := by
     refine conv (t := trn a b d) (s := trn a b c) ?_ (fun e => hD e.symm) hA
     rw [j1, j2, t3]; grind
    unfold InR at this ⊢; omega
   ·have : InR a.y d.y c.y := by
     refine conv (t := trn a b d) (s := trn a b c) ?_ (fun e => hD e.symm) hA
     rw [j1, j3, t3]; grind
    unfold InR at this ⊢; omega
  by_cases t4 : trn c d b = 0
  ·refine .inr (.inl ⟨t4, ?_, ?_⟩)
   ·have : InR b.x d.x c.x := by
     refine conv (t := trn a b d) (s := trn a b c) ?_ (fun e => hD e.symm) hA
     rw [j1, j2, t4]; grind
    unfold InR at this ⊢; omega
   ·have : InR b.y d.y c.y := by
     refine conv (t := trn a b d) (s := trn a b c) ?_ (fun e => hD e.symm) hA
     rw [j1, j3, t4]; grind
    unfold InR at this ⊢; omega
  refine .inr (.inr (.inr (.inr ⟨?_, ?_⟩)))
  ·unfold Acr at h3; unfold Opp; omega
  ·unfold Acr at h4; unfold Opp; omega
theorem met_iff (a b c d : P2) : metB a b c d = true ↔ MtP a b c d := (metB_iff a b c d).trans ⟨mt_of_me, me_of_mt⟩
theorem sqK_pos {x : Int} (h : x ≠ 0) : 0 < x * x := by
 rcases Int.lt_or_lt_of_ne h with h | h
 ·exact Int.mul_pos_of_neg_of_neg h h
 ·exact Int.mul_pos h h
theorem sqK_nn (x : Int) : 0 ≤ x * x := by
 by_cases h : x = 0
 ·subst h; omega
 ·have := sqK_pos h; omega
theorem fold1 {u v N d : Int} (h : v * N = u * d) (hN : 0 < N) (hd : N ≤ d) : InR u 0 v := by
 unfold InR
 by_cases hu : 0 ≤ u
 ·have h1 : u * N ≤ u * d := Int.mul_le_mul_of_nonneg_left hd hu
  have h2 : u ≤ v := Int.le_of_mul_le_mul_right (a := N) (by omega) hN
  omega
 ·have h1 : u * d ≤ u * N := Int.mul_le_mul_of_nonpos_left (by omega) hd
  have h2 : v ≤ u := Int.le_of_mul_le_mul_right (a := N) (by omega) hN
  omega
theorem fold2 {u v N d : Int} (h : v * N = u * d) (hN : 0 < N) (hd : d ≤ N) (h0 : 0 < d) : InR v 0 u := by
 unfold InR
 by_cases hu : 0 ≤ u
 ·have h1 : u * d ≤ u * N := Int.mul_le_mul_of_nonneg_left hd hu
  have h2 : v ≤ u := Int.le_of_mul_le_mul_right (a := N) (by omega) hN
  have h3 : 0 ≤ u * d := Int.mul_nonneg hu (by omega)
  have h4 : 0 ≤ v := Int.le_of_mul_le_mul_right (a := N) (by omega) hN
  omega
 ·have h1 : u * N ≤ u * d := Int.mul_le_mul_of_nonpos_left (by omega) hd
  have h2 : u ≤ v := Int.le_of_mul_le_mul_right (a := N) (by omega) hN
  have h3 : u * d ≤ 0 := Int.mul_nonpos_of_nonpos_of_nonneg (by omega) (by omega)
  have h4 : v ≤ 0 := Int.le_of_mul_le_mul_right (a := N) (by omega) hN
  omega
theorem same_pos {u v : Int} (h : InR u 0 v) : 0 ≤ u * v ∧ (u ≠ 0 → 0 < u * v) := by
 unfold InR at h
 by_cases hu : u = 0
 ·subst hu; exact ⟨by omega, fun h => absurd rfl h⟩
 ·have : 0 < u * v := by
   rcases Int.lt_or_lt_of_ne hu with h1 | h1
   ·exact Int.mul_pos_of_neg_of_neg h1 (by omega)
   ·exact Int.mul_pos h1 (by omega)
  exact ⟨by omega, fun _ => this⟩
theorem fold_num {ux uy vx vy : Int} (hu : ¬ (ux = 0 ∧ uy = 0)) (hv : ¬ (vx = 0 ∧ vy = 0)) (hc : ux * vy - uy * vx = 0) : (0 < ux * vx + uy * vy) ↔ ((InR ux 0 vx ∧ InR uy 0 vy) ∨ (InR vx 0 ux ∧ InR vy 0 uy)) := by
 constructor
 ·intro h
  have hN : 0 < ux * ux + uy * uy := by
   have h1 := sqK_nn ux
   have h2 := sqK_nn uy
   by_cases hx : ux = 0
   ·have := sqK_pos (x := uy) (fun e => hu ⟨hx, e⟩); omega
   ·have := sqK_pos hx; omega
  have ex : vx * (ux * ux + uy * uy) = ux * (ux * vx + uy * vy) := by grind
  have ey : vy * (ux * ux + uy * uy) = uy * (ux * vx + uy * vy) := by grind
  rcases Int.le_total (ux * ux + uy * uy) (ux * vx + uy * vy) with h1 | h1
  ·exact .inl ⟨fold1 ex hN h1, fold1 ey hN h1⟩
  ·exact .inr ⟨fold2 ex hN h1 h, fold2 ey hN h1 h⟩
 ·rintro (⟨h1, h2⟩ | ⟨h1, h2⟩)
  ·obtain ⟨a1, a2⟩ := same_pos h1
   obtain ⟨b1, b2⟩ := same_pos h2
   by_cases hx : ux = 0
   ·have := b2 fun e => hu ⟨hx, e⟩; omega
   ·have := a2 hx; omega
  ·obtain ⟨a1, a2⟩ := same_pos h1
   obtain ⟨b1, b2⟩ := same_pos h2
   rw [Int.mul_comm ux, Int.mul_comm uy]
   by_cases hx : vx = 0
   ·have := b2 fun e => hv ⟨hx, e⟩; omega
   ·have := a2 hx; omega
theorem fld_iff {o a b : P2} (ha : a ≠ o) (hb : b ≠ o) : fldB o a b = true ↔ (OnP a o b ∨ OnP b a o) := by
 have s1 : trn o b a = -trn o a b := by unfold trn; grind
 have s2 : trn a o b = -trn o a b := by unfold trn; grind
 have hu : ¬ (a.x - o.x = 0 ∧ a.y - o.y = 0) := fun h => ha (p2_ext (by omega) (by omega))
 have hv : ¬ (b.x - o.x = 0 ∧ b.y - o.y = 0) := fun h => hb (p2_ext (by omega) (by omega))
 unfold fldB OnP
 rw [Bool.and_eq_true, decide_eq_true_eq, decide_eq_true_eq, s1, s2]
 by_cases h0 : trn o a b = 0
 ·have hc : (a.x - o.x) * (b.y - o.y) - (a.y - o.y) * (b.x - o.x) = 0 := h0
  rw [fold_num hu hv hc, h0]
  unfold InR
  constructor
  ·rintro ⟨_, h | h⟩
   ·exact .inl (by omega)
   ·exact .inr (by omega)
  ·rintro (h | h)
   ·exact ⟨rfl, .inl (by omega)⟩
   ·exact ⟨rfl, .inr (by omega)⟩
 ·constructor
  ·intro h; exact absurd h.1 h0
  ·rintro (h | h) <;> exact absurd h.1 (by omega)
end Go.Proofs.YtlblimbelfenaaaGreat

/- Guarded effects of drawn regions. -/
namespace Go.Proofs.YtlblimbelfenaaaGreat
open Go Go.RowKit
section
variable {P : Program} {N : Nat} {E : Env} {F : Fm} {H : List OB} {o : Oper} {Q : Exit → Fm → List OB → Prop} {ops : Array Oper} {i : Nat} {L : List (Nat × Option (List Nat))}
theorem wanted_no {S : Nat → Prop} {ρ : List (Option Nat)} {a : Act} {w : World} (h : gd ops o F = some false) (hR : R N E S ρ F H a w) : Region.wanted o (yielded ops a.tmps) = false := by
 obtain ⟨j, b, oj, t, h1, h2, h3, ⟨b', h4, h5⟩ | ⟨h4, _⟩⟩ := gd_of h
 ·simp only [Region.wanted, h1, yielded_of hR h2 h3 h4]
  cases b <;> cases b' <;> simp_all
 ·simp [Region.wanted, h1, skipped_of hR h2 h3 h4]
theorem at_efK {U : List Nat} {K : Fm → List OB → Prop} (ho : ops[i]? = some o) (hr : Ef P N E o F H K) (h : ∀ F' H', K F' H' → (∀ j ∈ U, Ag P N E ops F' H' j) ∧ AT P N E ops L F' H' Q) (hg : gok ops o F = true := by exact rfl) : AT P N E ops ((i, some U) :: L) F H Q := fun S ρ a w hR => by
 refine wpT_e ho fun K' hK => ?_
 rw [if_pos (wanted_of (P := P) hg hR)]
 refine effO_mono (fun a' w' hh => ?_) (hr S ρ a w hR)
 obtain ⟨S', ρ', F', H', hk, hR'⟩ := hh
 obtain ⟨h1, h2⟩ := h F' H' hk
 exact hK _ _ (fun j hj => h1 j hj S' ρ' a' w' hR') (h2 S' ρ' a' w' hR')
theorem at_efN {U : List Nat} {d : Nat} (ho : ops[i]? = some o) (hg : gd ops o F = some false) (hd : o.dst = some d) (hN : d < N) (h : (∀ j ∈ U, Ag P N E ops ((d, un) :: F) H j) ∧ AT P N E ops L ((d, un) :: F) H Q) : AT P N E ops ((i, some U) :: L) F H Q := fun S ρ a w hR => by
 refine wpT_e ho fun K' hK => ?_
 rw [if_neg (by rw [wanted_no hg hR]; simp)]
 have hR' : R N E S ρ ((d, un) :: F) H (a.put o.dst undef) w := by rw [hd]; exact hR.put hN (.c (.s _))
 exact hK _ _ (fun j hj => h.1 j hj S ρ _ w hR') (h.2 S ρ _ w hR')
theorem put_sameK {S : Nat → Prop} {ρ : List (Option Nat)} {a : Act} {w : World} {d : Nat} {x : AV} (hR : R N E S ρ F H a w) (hx : F.lookup d = some x) : a.put (some d) (x.den ρ H) = a := by
 have hf := (hR.fr d x hx).1
 obtain ⟨tm, df⟩ := a
 simp only [Act.put, Act.mk.injEq, and_true]
 refine Array.ext_getElem? fun k => ?_
 rw [Array.getElem?_setIfInBounds]
 split
 ·rename_i hk; subst hk; rw [hf]; split
  ·rfl
  ·rename_i hlt; rw [Array.getElem?_eq_none (by simpa using hlt)] at hf; cases hf
 ·rfl
theorem ag_rdK {j d : Nat} {x : AV} (ho : ops[j]? = some o) (hg : gok ops o F = true) (hd : o.dst = some d) (hr : Rd P N E o F H x) (hx : F.lookup d = some x) : Ag P N E ops F H j := fun S ρ a w hR => by
 obtain ⟨h1, h2⟩ := hr S ρ a w hR
 refine again_of ho fun K hK => ?_
 rw [if_pos (wanted_of (P := P) hg hR)]
 unfold Oper.still
 rw [h1]
 refine ⟨rfl, ?_⟩
 rw [hd, put_sameK hR hx]
 exact hK
theorem ag_un {j d : Nat} (ho : ops[j]? = some o) (hg : gd ops o F = some false) (hd : o.dst = some d) (hx : F.lookup d = some un) : Ag P N E ops F H j := fun S ρ a w hR => by
 refine again_of ho fun K hK => ?_
 rw [if_neg (by rw [wanted_no hg hR]; simp)]
 have : a.put (some d) undef = a := put_sameK hR hx
 rw [hd, this]
 exact hK
end
end Go.Proofs.YtlblimbelfenaaaGreat

/- The reference's turns and ways that meet, by value. -/
-- NEWM
namespace Go.Proofs.YtlblimbelfenaaaGreat
open Go Go.RowKit
set_option maxRecDepth 100000
def onB (p a b : P2) : Bool := decide (trn a b p = 0) && (!(decide (p.x < min a.x b.x) || decide (max a.x b.x < p.x)) && !(decide (p.y < min a.y b.y) || decide (max a.y b.y < p.y)))
theorem onB_iff (p a b : P2) : onB p a b = true ↔ OnP p a b := by
 unfold onB OnP InR
 simp only [Bool.and_eq_true, Bool.not_eq_true', Bool.or_eq_false_iff, decide_eq_false_iff_not, decide_eq_true_eq]
 omega
theorem rturn_v (a b c : P2) (ha : a.in) (hb : b.in) (hc : c.in) : ACalls Tryz.prog 165 [.a [.c (I a.x), .c (I a.y)], .a [.c (I b.x), .c (I b.y)], .a [.c (I c.x), .c (I c.y)]] [] fun u H => u = .c (I (trn a b c)) ∧ H = [] := by
 obtain ⟨ax, ay⟩ := a
 obtain ⟨bx, by'⟩ := b
 obtain ⟨cx, cy⟩ := c
 simp only [P2.in] at ha hb hc
 have p1 := pro_in (x := bx - ax) (y := cy - ay) (by omega) (by omega)
 have p2 := pro_in (x := by' - ay) (y := cx - ax) (by omega) (by omega)
 simp only [trn]
 refine acalls_of (N := 30) Tryz.func165 rfl rfl (by simp) fun E hE => ?_
 refine WA ?_
 refine WA ?_
 exact aret_1 [] _ rfl rfl rfl (by decide) (ZNK rfl) (fun _ => .nil) ⟨rfl, rfl⟩
set_option maxHeartbeats 2000000 in
theorem ron_v (p a b : P2) (hp : p.in) (ha : a.in) (hb : b.in) : ACalls Tryz.prog 162 [.a [.c (I p.x), .c (I p.y)], .a [.c (I a.x), .c (I a.y)], .a [.c (I b.x), .c (I b.y)]] [] fun u H => u = .c (B (onB p a b)) ∧ H = [] := by
 refine acalls_of (N := 42) Tryz.func162 rfl rfl (by simp) fun E hE => ?_
 refine WA ?_
 obtain ⟨bx, hx⟩ : ∃ t, (!(decide (p.x < min a.x b.x) || decide (max a.x b.x < p.x))) = t := ⟨_, rfl⟩
 obtain ⟨by', hy⟩ : ∃ t, (!(decide (p.y < min a.y b.y) || decide (max a.y b.y < p.y))) = t := ⟨_, rfl⟩
 by_cases h : trn a b p = 0
 ·have e : onB p a b = (bx && by') := by rw [onB, hx, hy, decide_eq_true h, Bool.true_and]
  rw [e]
  cases bx with
  | true =>
   refine WR ?_
   refine al_ef rfl (ef_call0 false (fun _ => rturn_v a b p ha hb hp) rfl .fn rfl (by decide) (by kernel_rfl) rfl (fun _g => .cons (.aL (C0 rfl)) (.cons (.aL (C0 rfl)) (.cons (.aL (C0 rfl)) .nil))) (by simp)) ?_
   rintro _ _ ⟨_, _, _, ⟨rfl, rfl⟩, hF, hH⟩
   (refine NST hF hH ?_; clear hF hH; rintro rfl rfl)
   refine WO ?_
   first | refine ZS ?_ | (refine G1 rfl ?_; refine al_ef rfl (ef_call0 false (fun _ => rin_v p.x _ _) rfl .fn rfl (by decide) (by kernel_rfl) rfl (fun _ => C0 rfl) (by simp)) ?_; rintro _ _ ⟨_, _, _, ⟨hu, rfl⟩, hF, hH⟩; rw [hx] at hu; subst hu; (refine NST hF hH ?_; clear hF hH; rintro rfl rfl)) | skip
   refine WO ?_
   first | refine ZS ?_ | (refine G1 rfl ?_; refine al_ef rfl (ef_call0 false (fun _ => rin_v p.y _ _) rfl .fn rfl (by decide) (by kernel_rfl) rfl (fun _ => C0 rfl) (by simp)) ?_; rintro _ _ ⟨_, _, _, ⟨hu, rfl⟩, hF, hH⟩; rw [hy] at hu; subst hu; (refine NST hF hH ?_; clear hF hH; rintro rfl rfl)) | skip
   refine WE ?_
   exact aret_1 [] _ rfl rfl rfl (by decide) (ZNK rfl) (fun _ => .nil) ⟨rfl, rfl⟩
  | false =>
   refine WR ?_
   refine al_ef rfl (ef_call0 false (fun _ => rturn_v a b p ha hb hp) rfl .fn rfl (by decide) (by kernel_rfl) rfl (fun _g => .cons (.aL (C0 rfl)) (.cons (.aL (C0 rfl)) (.cons (.aL (C0 rfl)) .nil))) (by simp)) ?_
   rintro _ _ ⟨_, _, _, ⟨rfl, rfl⟩, hF, hH⟩
   (refine NST hF hH ?_; clear hF hH; rintro rfl rfl)
   refine WO ?_
   first | refine ZS ?_ | (refine G1 rfl ?_; refine al_ef rfl (ef_call0 false (fun _ => rin_v p.x _ _) rfl .fn rfl (by decide) (by kernel_rfl) rfl (fun _ => C0 rfl) (by simp)) ?_; rintro _ _ ⟨_, _, _, ⟨hu, rfl⟩, hF, hH⟩; rw [hx] at hu; subst hu; (refine NST hF hH ?_; clear hF hH; rintro rfl rfl)) | skip
   refine WO ?_
   first | refine ZS ?_ | (refine G1 rfl ?_; refine al_ef rfl (ef_call0 false (fun _ => rin_v p.y _ _) rfl .fn rfl (by decide) (by kernel_rfl) rfl (fun _ => C0 rfl) (by simp)) ?_; rintro _ _ ⟨_, _, _, ⟨hu, rfl⟩, hF, hH⟩; rw [hy] at hu; subst hu; (refine NST hF hH ?_; clear hF hH; rintro rfl rfl)) | skip
   refine WE ?_
   exact aret_1 [] _ rfl rfl rfl (by decide) (ZNK rfl) (fun _ => .nil) ⟨rfl, rfl⟩
 ·have e : onB p a b = false := by rw [onB, decide_eq_false h, Bool.false_and]
  rw [e]
  refine WR ?_
  refine al_ef rfl (ef_call0 false (fun _ => rturn_v a b p ha hb hp) rfl .fn rfl (by decide) (by kernel_rfl) rfl (fun _g => .cons (.aL (C0 rfl)) (.cons (.aL (C0 rfl)) (.cons (.aL (C0 rfl)) .nil))) (by simp)) ?_
  rintro _ _ ⟨_, _, _, ⟨rfl, rfl⟩, hF, hH⟩
  (refine NST hF hH ?_; clear hF hH; rintro rfl rfl)
  refine WO ?_
  first | refine ZS ?_ | (refine G1 rfl ?_; refine al_ef rfl (ef_call0 false (fun _ => rin_v p.x _ _) rfl .fn rfl (by decide) (by kernel_rfl) rfl (fun _ => C0 rfl) (by simp)) ?_; rintro _ _ ⟨_, _, _, ⟨hu, rfl⟩, hF, hH⟩; rw [hx] at hu; subst hu; (refine NST hF hH ?_; clear hF hH; rintro rfl rfl)) | skip
  refine WO ?_
  first | refine ZS ?_ | (refine G1 rfl ?_; refine al_ef rfl (ef_call0 false (fun _ => rin_v p.y _ _) rfl .fn rfl (by decide) (by kernel_rfl) rfl (fun _ => C0 rfl) (by simp)) ?_; rintro _ _ ⟨_, _, _, ⟨hu, rfl⟩, hF, hH⟩; rw [hy] at hu; subst hu; (refine NST hF hH ?_; clear hF hH; rintro rfl rfl)) | skip
  refine WE ?_
  exact aret_1 [] _ rfl rfl rfl (by decide) (ZNK rfl) (fun _ => .nil) ⟨rfl, rfl⟩
end Go.Proofs.YtlblimbelfenaaaGreat
