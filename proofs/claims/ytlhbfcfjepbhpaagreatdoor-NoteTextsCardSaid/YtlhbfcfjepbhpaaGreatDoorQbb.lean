/- cmp.Compare of numbers, by value. -/
import Derived.Test.YtlhbfcfjepbhpaaGreatDoorQba
import Derived.Test.YtlhbfcfjepbhpaaGreatDoorQaq
set_option linter.unusedSimpArgs false
set_option linter.unusedVariables false
-- NEWM
namespace Go.Proofs.YtlhbfcfjepbhpaaGreatDoor
open Go Go.RowKit
set_option maxRecDepth 100000
def usd (x : Nt) : Nt :=
 if x.kd = 1 then ⟨x.st, x.no, x.at_, x.kd, x.pr, x.jb, [], x.n, [], 0⟩
 else if x.kd = 2 then ⟨x.st, x.no, x.at_, x.kd, x.pr, [], [], x.n, [], 0⟩
 else if x.kd = 5 then ⟨x.st, x.no, x.at_, x.kd, x.pr, [], x.sp, x.n, [], 0⟩
 else if x.kd = 6 then ⟨x.st, x.no, x.at_, x.kd, x.pr, [], [], x.n, [], 0⟩
 else if x.kd = 7 then ⟨x.st, x.no, x.at_, x.kd, [], [], [], 0, x.of_, x.ot⟩
 else ⟨x.st, x.no, x.at_, x.kd, x.pr, [], [], 0, [], 0⟩
def nmF (x : Nt) : Bool := if x.kd = 1 then keyB x.pr && keyB x.jb else if x.kd = 5 then keyB x.pr && keyB x.sp else if x.kd = 7 then keyB x.of_ else keyB x.pr
def nbF (x : Nt) : Bool := if x.kd = 1 ∨ x.kd = 2 then !outB x.n 1 1000 else if x.kd = 5 ∨ x.kd = 6 then !outB x.n 1 100000000 else if x.kd = 7 then !outB x.ot 1 1000000 else true
theorem ntF_doc (x : Nt) : (if keyB x.st = false then 5 else if outB x.no 1 1000000 = true ∨ moB x.at_ = false then 1 else if outB x.kd 1 7 = true then 4 else if nmF x = false then 5 else if nbF x = false then 1 else if ¬ x = usd x then 3 else 0) = ntF x := by
 obtain ⟨st, no, at_, kd, pr, jb, sp, n, of_, ot⟩ := x
 unfold ntF
 simp only
 split
 ·rfl
 split
 ·rfl
 split
 ·rfl
 rename_i h
 have hk7 : kd = 1 ∨ kd = 2 ∨ kd = 3 ∨ kd = 4 ∨ kd = 5 ∨ kd = 6 ∨ kd = 7 := by
  unfold outB at h
  simp at h
  omega
 rcases hk7 with rfl | rfl | rfl | rfl | rfl | rfl | rfl
 all_goals simp [nmF, nbF, usd, uP, uJ, uS, uU, uM]
 all_goals simp only [Decidable.imp_iff_not_or, Bool.not_eq_true]
set_option maxHeartbeats 4000000 in
theorem rnf_v (x : Nt) (hx : NtS x) : ACalls Tryz.prog 57 [noA x] [] fun u H => u = .c (I (ntF x)) ∧ H = [] := by
 rw [← ntF_doc]
 obtain ⟨st, no, at_, kn, pr, jb, sp, n, of_, ot⟩ := x
 obtain ⟨b1, b2, b3, b4, b5⟩ := hx
 simp only at b1 b2 b3 b4 b5
 show ACalls _ _ [.a [.c (T st), .c (I no), .c (I at_), .c (I kn), .c (T pr), .c (T jb), .c (T sp), .c (I n), .c (T of_), .c (I ot)]] [] _
 obtain ⟨ks0, hks0⟩ : ∃ q, keyB st = q := ⟨_, rfl⟩
 obtain ⟨no1, hno⟩ : ∃ q, (!outB no 1 1000000) = q := ⟨_, rfl⟩
 obtain ⟨at1, hat⟩ : ∃ q, moB at_ = q := ⟨_, rfl⟩
 obtain ⟨kn1, hkn⟩ : ∃ q, (!outB kn 1 7) = q := ⟨_, rfl⟩
 obtain ⟨kp, hkp⟩ : ∃ q, keyB pr = q := ⟨_, rfl⟩
 obtain ⟨kj, hkj⟩ : ∃ q, keyB jb = q := ⟨_, rfl⟩
 obtain ⟨ks, hks⟩ : ∃ q, keyB sp = q := ⟨_, rfl⟩
 obtain ⟨ko, hko⟩ : ∃ q, keyB of_ = q := ⟨_, rfl⟩
 obtain ⟨on, hon⟩ : ∃ q, (!outB n 1 1000) = q := ⟨_, rfl⟩
 obtain ⟨on2, hon2⟩ : ∃ q, (!outB n 1 100000000) = q := ⟨_, rfl⟩
 obtain ⟨oo, hoo⟩ : ∃ q, (!outB ot 1 1000000) = q := ⟨_, rfl⟩
 refine zg (N := 118) Tryz.func57 rfl rfl (by simp) fun E hE => ?_
 refine WA ?_
 refine WA ?_
 refine WR ?_
 refine zf rfl (zc false (fun _ => rkey_v _ (by omega)) rfl .fn rfl (by decide) (by kernel_rfl) rfl (fun _ => C0 rfl) (by simp)) ?_
 rintro _ _ ⟨_, _, _, ⟨rfl, rfl⟩, hF, hH⟩
 rw [hkp] at hF
 (refine NST hF hH ?_; clear hF hH; rintro rfl rfl)
 refine WE ?_
 refine WR ?_
 refine al_nil ?_
 refine zA ?_
 refine zA1 (fun F H => ∃ nm nb, nm = nmF ⟨st, no, at_, kn, pr, jb, sp, n, of_, ot⟩ ∧ nb = nbF ⟨st, no, at_, kn, pr, jb, sp, n, of_, ot⟩ ∧ F = [(1, .p 0 0 0), (2, .c (I 0)), (3, .p 1 0 0), (4, .c (B nm)), (5, .c (B nb))] ∧ H = [.box [.c (T st), .c (I no), .c (I at_), .c (I kn), .c (T pr), .c (T jb), .c (T sp), .c (I n), .c (T of_), .c (I ot)], .box ((noR (usd ⟨st, no, at_, kn, pr, jb, sp, n, of_, ot⟩)).map .c)]) ?_ ?_ zq2
 ·refine ZZ ?_
  by_cases h1 : kn = 1
  ·subst h1
   refine WA ?_
   refine zb rfl ?_
   refine ZZ ?_
   refine zk [(0, none), (1, none), (2, none), (3, none), (4, none), (5, some [2, 3]), (6, none), (7, some [])] zS (by kernel_rfl) ?_
   refine WQ ?_
   cases kp
   ·refine ZZ ?_
    refine zk [(0, none), (1, none), (2, none), (3, none), (6, none), (7, none), (4, some [6, 7]), (5, none), (8, some [5]), (9, none), (10, none)] zS (by kernel_rfl) ?_
    refine WP ?_
    first | refine zm3 rfl rfl rfl (by decide) ⟨ze (by first | exact zz rfl rfl rfl (ZX (KF (t := 39) (f := 7) rfl rfl)) rfl) (ze (by first | exact zz rfl rfl rfl (ZL (KK (t := 3) rfl)) rfl) (zm)), ?_⟩ | (refine zn3 rfl (zc false (fun _ => rkey_v _ (by omega)) rfl .fn rfl (by decide) (by kernel_rfl) rfl (fun _ => C0 rfl) (by simp)) ?_; rintro _ _ ⟨_, _, _, ⟨rfl, rfl⟩, hF, hH⟩; rw [hkj] at hF; (refine NST hF hH ?_; clear hF hH; rintro rfl rfl); refine ⟨ze (by first | exact zz rfl rfl rfl (ZX (KF (t := 39) (f := 7) rfl rfl)) rfl) (ze (by first | exact zz rfl rfl rfl (ZL (KK (t := 3) rfl)) rfl) (zm)), ?_⟩)
    refine WP ?_
    refine zi2 rfl rfl (zc false (fun _ => in2_v _ _ _) rfl .fn rfl (by decide) (by kernel_rfl) rfl (fun _ => C0 rfl) (by simp)) ?_
    rintro _ _ ⟨_, _, _, ⟨rfl, rfl⟩, hF, hH⟩
    rw [hon] at hF
    (refine NST hF hH ?_; clear hF hH; rintro rfl rfl)
    refine ⟨ze (by first | exact zz rfl rfl rfl (zs1 rfl rfl rfl) rfl | exact zz rfl rfl rfl (zt1 rfl rfl rfl) rfl) (zm), ?_⟩
    refine WQ ?_
    refine zp [some 0, some 1] (fun _ => [(1, .p 0 0 0), (2, .c (I 0)), (3, .p 1 0 0), (4, .c (B false)), (5, .c (B on))]) (fun _ => [.box [.c (T st), .c (I no), .c (I at_), .c (I 1), .c (T pr), .c (T jb), .c (T sp), .c (I n), .c (T of_), .c (I ot)], .box [.c (T st), .c (I no), .c (I at_), .c (I 1), .c (T pr), .c (T jb), .c (T []), .c (I n), .c (T []), .c (I 0)]]) (by decide) (ZNL hE) ZCF ZCH (fun _ => ?_)
    exact ⟨_, _, by simp [nmF, hkp, hkj, hon], by simp [nbF, hkp, hkj, hon], rfl, rfl⟩
   ·refine ZZ ?_
    refine zk [(0, none), (1, none), (2, none), (3, none), (6, none), (7, none), (4, some [6, 7]), (5, none), (8, some [5]), (9, none), (10, none)] zS (by kernel_rfl) ?_
    refine WP ?_
    first | refine zm3 rfl rfl rfl (by decide) ⟨ze (by first | exact zz rfl rfl rfl (ZX (KF (t := 39) (f := 7) rfl rfl)) rfl) (ze (by first | exact zz rfl rfl rfl (ZL (KK (t := 3) rfl)) rfl) (zm)), ?_⟩ | (refine zn3 rfl (zc false (fun _ => rkey_v _ (by omega)) rfl .fn rfl (by decide) (by kernel_rfl) rfl (fun _ => C0 rfl) (by simp)) ?_; rintro _ _ ⟨_, _, _, ⟨rfl, rfl⟩, hF, hH⟩; rw [hkj] at hF; (refine NST hF hH ?_; clear hF hH; rintro rfl rfl); refine ⟨ze (by first | exact zz rfl rfl rfl (ZX (KF (t := 39) (f := 7) rfl rfl)) rfl) (ze (by first | exact zz rfl rfl rfl (ZL (KK (t := 3) rfl)) rfl) (zm)), ?_⟩)
    refine WP ?_
    refine zi2 rfl rfl (zc false (fun _ => in2_v _ _ _) rfl .fn rfl (by decide) (by kernel_rfl) rfl (fun _ => C0 rfl) (by simp)) ?_
    rintro _ _ ⟨_, _, _, ⟨rfl, rfl⟩, hF, hH⟩
    rw [hon] at hF
    (refine NST hF hH ?_; clear hF hH; rintro rfl rfl)
    refine ⟨ze (by first | exact zz rfl rfl rfl (zs1 rfl rfl rfl) rfl | exact zz rfl rfl rfl (zt1 rfl rfl rfl) rfl) (zm), ?_⟩
    refine WQ ?_
    refine zp [some 0, some 1] (fun _ => [(1, .p 0 0 0), (2, .c (I 0)), (3, .p 1 0 0), (4, .c (B kj)), (5, .c (B on))]) (fun _ => [.box [.c (T st), .c (I no), .c (I at_), .c (I 1), .c (T pr), .c (T jb), .c (T sp), .c (I n), .c (T of_), .c (I ot)], .box [.c (T st), .c (I no), .c (I at_), .c (I 1), .c (T pr), .c (T jb), .c (T []), .c (I n), .c (T []), .c (I 0)]]) (by decide) (ZNL hE) ZCF ZCH (fun _ => ?_)
    exact ⟨_, _, by simp [nmF, hkp, hkj, hon], by simp [nbF, hkp, hkj, hon], rfl, rfl⟩
  by_cases h2 : kn = 2
  ·subst h2
   refine WA ?_
   refine za rfl ?_
   refine ZZ ?_
   refine WA ?_
   refine zb rfl ?_
   refine ZZ ?_
   refine zk [(0, none), (1, none), (2, none), (3, none), (5, none), (4, some [0, 1, 5]), (6, some []), (7, none)] zS (by kernel_rfl) ?_
   refine WP ?_
   refine zi2 rfl rfl (zc false (fun _ => in2_v _ _ _) rfl .fn rfl (by decide) (by kernel_rfl) rfl (fun _ => C0 rfl) (by simp)) ?_
   rintro _ _ ⟨_, _, _, ⟨rfl, rfl⟩, hF, hH⟩
   rw [hon] at hF
   (refine NST hF hH ?_; clear hF hH; rintro rfl rfl)
   refine ⟨ze (by first | exact zz rfl rfl rfl (ZX (KF (t := 39) (f := 7) rfl rfl)) rfl) (ze (by first | exact zz rfl rfl rfl (ZL (KK (t := 3) rfl)) rfl) (ze (by first | exact zz rfl rfl rfl (ZX (KF (t := 39) (f := 7) rfl rfl)) rfl) (zm))), ?_⟩
   refine WQ ?_
   refine zp [some 0, some 1] (fun _ => [(1, .p 0 0 0), (2, .c (I 0)), (3, .p 1 0 0), (4, .c (B kp)), (5, .c (B on))]) (fun _ => [.box [.c (T st), .c (I no), .c (I at_), .c (I 2), .c (T pr), .c (T jb), .c (T sp), .c (I n), .c (T of_), .c (I ot)], .box [.c (T st), .c (I no), .c (I at_), .c (I 2), .c (T pr), .c (T []), .c (T []), .c (I n), .c (T []), .c (I 0)]]) (by decide) (ZNL hE) ZCF ZCH (fun _ => ?_)
   exact ⟨_, _, by simp [nmF, hkp, hon], by simp [nbF, hkp, hon], rfl, rfl⟩
  by_cases h5 : kn = 5
  ·subst h5
   refine WA ?_
   refine za rfl ?_
   refine ZZ ?_
   refine WA ?_
   refine za rfl ?_
   refine ZZ ?_
   refine WA ?_
   refine zb rfl ?_
   refine ZZ ?_
   refine zk [(0, none), (1, none), (2, none), (3, none), (4, none), (5, some [2, 3]), (6, none), (7, some [])] zS (by kernel_rfl) ?_
   refine WQ ?_
   cases kp
   ·refine ZZ ?_
    refine zk [(0, none), (1, none), (2, none), (3, none), (6, none), (7, none), (4, some [6, 7]), (5, none), (8, some [5]), (9, none), (10, none)] zS (by kernel_rfl) ?_
    refine WP ?_
    first | refine zm3 rfl rfl rfl (by decide) ⟨ze (by first | exact zz rfl rfl rfl (ZX (KF (t := 39) (f := 7) rfl rfl)) rfl) (ze (by first | exact zz rfl rfl rfl (ZL (KK (t := 3) rfl)) rfl) (zm)), ?_⟩ | (refine zn3 rfl (zc false (fun _ => rkey_v _ (by omega)) rfl .fn rfl (by decide) (by kernel_rfl) rfl (fun _ => C0 rfl) (by simp)) ?_; rintro _ _ ⟨_, _, _, ⟨rfl, rfl⟩, hF, hH⟩; rw [hks] at hF; (refine NST hF hH ?_; clear hF hH; rintro rfl rfl); refine ⟨ze (by first | exact zz rfl rfl rfl (ZX (KF (t := 39) (f := 7) rfl rfl)) rfl) (ze (by first | exact zz rfl rfl rfl (ZL (KK (t := 3) rfl)) rfl) (zm)), ?_⟩)
    refine WP ?_
    refine zi2 rfl rfl (zc false (fun _ => in2_v _ _ _) rfl .fn rfl (by decide) (by kernel_rfl) rfl (fun _ => C0 rfl) (by simp)) ?_
    rintro _ _ ⟨_, _, _, ⟨rfl, rfl⟩, hF, hH⟩
    rw [hon2] at hF
    (refine NST hF hH ?_; clear hF hH; rintro rfl rfl)
    refine ⟨ze (by first | exact zz rfl rfl rfl (zs1 rfl rfl rfl) rfl | exact zz rfl rfl rfl (zt1 rfl rfl rfl) rfl) (zm), ?_⟩
    refine WQ ?_
    refine zp [some 0, some 1] (fun _ => [(1, .p 0 0 0), (2, .c (I 0)), (3, .p 1 0 0), (4, .c (B false)), (5, .c (B on2))]) (fun _ => [.box [.c (T st), .c (I no), .c (I at_), .c (I 5), .c (T pr), .c (T jb), .c (T sp), .c (I n), .c (T of_), .c (I ot)], .box [.c (T st), .c (I no), .c (I at_), .c (I 5), .c (T pr), .c (T []), .c (T sp), .c (I n), .c (T []), .c (I 0)]]) (by decide) (ZNL hE) ZCF ZCH (fun _ => ?_)
    exact ⟨_, _, by simp [nmF, hkp, hks, hon2], by simp [nbF, hkp, hks, hon2], rfl, rfl⟩
   ·refine ZZ ?_
    refine zk [(0, none), (1, none), (2, none), (3, none), (6, none), (7, none), (4, some [6, 7]), (5, none), (8, some [5]), (9, none), (10, none)] zS (by kernel_rfl) ?_
    refine WP ?_
    first | refine zm3 rfl rfl rfl (by decide) ⟨ze (by first | exact zz rfl rfl rfl (ZX (KF (t := 39) (f := 7) rfl rfl)) rfl) (ze (by first | exact zz rfl rfl rfl (ZL (KK (t := 3) rfl)) rfl) (zm)), ?_⟩ | (refine zn3 rfl (zc false (fun _ => rkey_v _ (by omega)) rfl .fn rfl (by decide) (by kernel_rfl) rfl (fun _ => C0 rfl) (by simp)) ?_; rintro _ _ ⟨_, _, _, ⟨rfl, rfl⟩, hF, hH⟩; rw [hks] at hF; (refine NST hF hH ?_; clear hF hH; rintro rfl rfl); refine ⟨ze (by first | exact zz rfl rfl rfl (ZX (KF (t := 39) (f := 7) rfl rfl)) rfl) (ze (by first | exact zz rfl rfl rfl (ZL (KK (t := 3) rfl)) rfl) (zm)), ?_⟩)
    refine WP ?_
    refine zi2 rfl rfl (zc false (fun _ => in2_v _ _ _) rfl .fn rfl (by decide) (by kernel_rfl) rfl (fun _ => C0 rfl) (by simp)) ?_
    rintro _ _ ⟨_, _, _, ⟨rfl, rfl⟩, hF, hH⟩
    rw [hon2] at hF
    (refine NST hF hH ?_; clear hF hH; rintro rfl rfl)
    refine ⟨ze (by first | exact zz rfl rfl rfl (zs1 rfl rfl rfl) rfl | exact zz rfl rfl rfl (zt1 rfl rfl rfl) rfl) (zm), ?_⟩
    refine WQ ?_
    refine zp [some 0, some 1] (fun _ => [(1, .p 0 0 0), (2, .c (I 0)), (3, .p 1 0 0), (4, .c (B ks)), (5, .c (B on2))]) (fun _ => [.box [.c (T st), .c (I no), .c (I at_), .c (I 5), .c (T pr), .c (T jb), .c (T sp), .c (I n), .c (T of_), .c (I ot)], .box [.c (T st), .c (I no), .c (I at_), .c (I 5), .c (T pr), .c (T []), .c (T sp), .c (I n), .c (T []), .c (I 0)]]) (by decide) (ZNL hE) ZCF ZCH (fun _ => ?_)
    exact ⟨_, _, by simp [nmF, hkp, hks, hon2], by simp [nbF, hkp, hks, hon2], rfl, rfl⟩
  by_cases h6 : kn = 6
  ·subst h6
   refine WA ?_
   refine za rfl ?_
   refine ZZ ?_
   refine WA ?_
   refine za rfl ?_
   refine ZZ ?_
   refine WA ?_
   refine za rfl ?_
   refine ZZ ?_
   refine WA ?_
   refine zb rfl ?_
   refine ZZ ?_
   refine zk [(0, none), (1, none), (2, none), (3, none), (5, none), (4, some [0, 1, 5]), (6, some []), (7, none)] zS (by kernel_rfl) ?_
   refine WP ?_
   refine zi2 rfl rfl (zc false (fun _ => in2_v _ _ _) rfl .fn rfl (by decide) (by kernel_rfl) rfl (fun _ => C0 rfl) (by simp)) ?_
   rintro _ _ ⟨_, _, _, ⟨rfl, rfl⟩, hF, hH⟩
   rw [hon2] at hF
   (refine NST hF hH ?_; clear hF hH; rintro rfl rfl)
   refine ⟨ze (by first | exact zz rfl rfl rfl (ZX (KF (t := 39) (f := 7) rfl rfl)) rfl) (ze (by first | exact zz rfl rfl rfl (ZL (KK (t := 3) rfl)) rfl) (ze (by first | exact zz rfl rfl rfl (ZX (KF (t := 39) (f := 7) rfl rfl)) rfl) (zm))), ?_⟩
   refine WQ ?_
   refine zp [some 0, some 1] (fun _ => [(1, .p 0 0 0), (2, .c (I 0)), (3, .p 1 0 0), (4, .c (B kp)), (5, .c (B on2))]) (fun _ => [.box [.c (T st), .c (I no), .c (I at_), .c (I 6), .c (T pr), .c (T jb), .c (T sp), .c (I n), .c (T of_), .c (I ot)], .box [.c (T st), .c (I no), .c (I at_), .c (I 6), .c (T pr), .c (T []), .c (T []), .c (I n), .c (T []), .c (I 0)]]) (by decide) (ZNL hE) ZCF ZCH (fun _ => ?_)
   exact ⟨_, _, by simp [nmF, hkp, hon2], by simp [nbF, hkp, hon2], rfl, rfl⟩
  by_cases h7 : kn = 7
  ·subst h7
   refine WA ?_
   refine za rfl ?_
   refine ZZ ?_
   refine WA ?_
   refine za rfl ?_
   refine ZZ ?_
   refine WA ?_
   refine za rfl ?_
   refine ZZ ?_
   refine WA ?_
   refine za rfl ?_
   refine ZZ ?_
   refine WA ?_
   refine zb rfl ?_
   refine ZZ ?_
   refine zk [(0, none), (1, none), (2, none), (3, none), (4, none), (5, some [0, 1, 2, 3]), (6, none), (7, some [2, 3]), (8, none), (9, some [])] zS (by kernel_rfl) ?_
   refine WQ ?_
   refine ZZ ?_
   refine zk [(0, none), (1, none), (3, none), (4, none), (2, some [3, 4]), (5, some []), (6, none), (7, none)] zS (by kernel_rfl) ?_
   refine WP ?_
   refine zi2 rfl rfl (zc false (fun _ => rkey_v _ (by omega)) rfl .fn rfl (by decide) (by kernel_rfl) rfl (fun _ => C0 rfl) (by simp)) ?_
   rintro _ _ ⟨_, _, _, ⟨rfl, rfl⟩, hF, hH⟩
   rw [hko] at hF
   (refine NST hF hH ?_; clear hF hH; rintro rfl rfl)
   refine ⟨ze (by first | exact zz rfl rfl rfl (ZX (KF (t := 39) (f := 9) rfl rfl)) rfl) (ze (by first | exact zz rfl rfl rfl (ZL (KK (t := 3) rfl)) rfl) (zm)), ?_⟩
   refine zi2 rfl rfl (zc false (fun _ => in2_v _ _ _) rfl .fn rfl (by decide) (by kernel_rfl) rfl (fun _ => C0 rfl) (by simp)) ?_
   rintro _ _ ⟨_, _, _, ⟨rfl, rfl⟩, hF, hH⟩
   rw [hoo] at hF
   (refine NST hF hH ?_; clear hF hH; rintro rfl rfl)
   refine ⟨zm, ?_⟩
   refine WQ ?_
   refine zp [some 0, some 1] (fun _ => [(1, .p 0 0 0), (2, .c (I 0)), (3, .p 1 0 0), (4, .c (B ko)), (5, .c (B oo))]) (fun _ => [.box [.c (T st), .c (I no), .c (I at_), .c (I 7), .c (T pr), .c (T jb), .c (T sp), .c (I n), .c (T of_), .c (I ot)], .box [.c (T st), .c (I no), .c (I at_), .c (I 7), .c (T []), .c (T []), .c (T []), .c (I 0), .c (T of_), .c (I ot)]]) (by decide) (ZNL hE) ZCF ZCH (fun _ => ?_)
   exact ⟨_, _, by simp [nmF, hko, hoo], by simp [nbF, hko, hoo], rfl, rfl⟩
  refine WA ?_
  refine za rfl ?_
  refine ZZ ?_
  refine WA ?_
  refine za rfl ?_
  refine ZZ ?_
  refine WA ?_
  refine za rfl ?_
  refine ZZ ?_
  refine WA ?_
  refine za rfl ?_
  refine ZZ ?_
  refine WA ?_
  refine za rfl ?_
  refine ZZ ?_
  refine zp [some 0, some 1] (fun _ => [(1, .p 0 0 0), (2, .c (I 0)), (3, .p 1 0 0), (4, .c (B kp)), (5, .c (B true))]) (fun _ => [.box [.c (T st), .c (I no), .c (I at_), .c (I kn), .c (T pr), .c (T jb), .c (T sp), .c (I n), .c (T of_), .c (I ot)], .box [.c (T st), .c (I no), .c (I at_), .c (I kn), .c (T pr), .c (T []), .c (T []), .c (I 0), .c (T []), .c (I 0)]]) (by decide) (ZNL hE) ZCF ZCH (fun _ => ?_)
  exact ⟨_, _, by simp [nmF, h1, h2, h5, h6, h7, hkp], by simp [nbF, h1, h2, h5, h6, h7, hkp], rfl, by rw [show usd ⟨st, no, at_, kn, pr, jb, sp, n, of_, ot⟩ = ⟨st, no, at_, kn, pr, [], [], 0, [], 0⟩ by simp [usd, h1, h2, h5, h6, h7]]; rfl⟩
 rintro F H ⟨nm, nb, hnm, hnb, rfl, rfl⟩
 refine ZZ ?_
 generalize hU : usd ⟨st, no, at_, kn, pr, jb, sp, n, of_, ot⟩ = U
 obtain ⟨ne, hne⟩ : ∃ q, decide (¬ (⟨st, no, at_, kn, pr, jb, sp, n, of_, ot⟩ : Nt) = U) = q := ⟨_, rfl⟩
 obtain ⟨c0, c1, c2, c3, c4, c5, c6, c7, c8, c9⟩ := U
 have hN : (noR ⟨c0, c1, c2, c3, c4, c5, c6, c7, c8, c9⟩).map AV.c = [.c (T c0), .c (I c1), .c (I c2), .c (I c3), .c (T c4), .c (T c5), .c (T c6), .c (I c7), .c (T c8), .c (I c9)] := rfl
 rw [hN]
 refine WR ?_
 refine zf rfl (zc false (fun _ => rkey_v _ (by omega)) rfl .fn rfl (by decide) (by kernel_rfl) rfl (fun _ => C0 rfl) (by simp)) ?_
 rintro _ _ ⟨_, _, _, ⟨rfl, rfl⟩, hF, hH⟩
 rw [hks0] at hF
 (refine NST hF hH ?_; clear hF hH; rintro rfl rfl)
 refine WE ?_
 cases ks0
 ·refine zb rfl ?_
  refine ZZ ?_
  refine WA ?_
  exact zh [] _ rfl rfl rfl (by decide) (ZNK rfl) (fun _ => .nil) ⟨congrArg (fun z => AV.c (I z)) (by simp [hks0]), rfl⟩
 refine za rfl ?_
 refine ZZ ?_
 cases no1
 ·refine WR ?_
  refine zf rfl (zc false (fun _ => in2_v _ _ _) rfl .fn rfl (by decide) (by kernel_rfl) rfl (fun _ => C0 rfl) (by simp)) ?_
  rintro _ _ ⟨_, _, _, ⟨rfl, rfl⟩, hF, hH⟩
  rw [hno] at hF
  (refine NST hF hH ?_; clear hF hH; rintro rfl rfl)
  refine WO ?_
  first | refine ZS ?_ | (refine G1 rfl ?_; refine zf rfl (zc false (fun _ => moment_v _) rfl .fn rfl (by decide) (by kernel_rfl) rfl (fun _ => C0 rfl) (by simp)) ?_; rintro _ _ ⟨_, _, _, ⟨rfl, rfl⟩, hF, hH⟩; rw [hat] at hF; (refine NST hF hH ?_; clear hF hH; rintro rfl rfl)) | skip
  refine WE ?_
  refine zb rfl ?_
  refine ZZ ?_
  refine WA ?_
  exact zh [] _ rfl rfl rfl (by decide) (ZNK rfl) (fun _ => .nil) ⟨congrArg (fun z => AV.c (I z)) (by simp at hno; simp [hks0, hno]), rfl⟩
 cases at1
 ·refine WR ?_
  refine zf rfl (zc false (fun _ => in2_v _ _ _) rfl .fn rfl (by decide) (by kernel_rfl) rfl (fun _ => C0 rfl) (by simp)) ?_
  rintro _ _ ⟨_, _, _, ⟨rfl, rfl⟩, hF, hH⟩
  rw [hno] at hF
  (refine NST hF hH ?_; clear hF hH; rintro rfl rfl)
  refine WO ?_
  first | refine ZS ?_ | (refine G1 rfl ?_; refine zf rfl (zc false (fun _ => moment_v _) rfl .fn rfl (by decide) (by kernel_rfl) rfl (fun _ => C0 rfl) (by simp)) ?_; rintro _ _ ⟨_, _, _, ⟨rfl, rfl⟩, hF, hH⟩; rw [hat] at hF; (refine NST hF hH ?_; clear hF hH; rintro rfl rfl)) | skip
  refine WE ?_
  refine zb rfl ?_
  refine ZZ ?_
  refine WA ?_
  exact zh [] _ rfl rfl rfl (by decide) (ZNK rfl) (fun _ => .nil) ⟨congrArg (fun z => AV.c (I z)) (by simp at hno; simp [hks0, hno, hat]), rfl⟩
 refine WR ?_
 refine zf rfl (zc false (fun _ => in2_v _ _ _) rfl .fn rfl (by decide) (by kernel_rfl) rfl (fun _ => C0 rfl) (by simp)) ?_
 rintro _ _ ⟨_, _, _, ⟨rfl, rfl⟩, hF, hH⟩
 rw [hno] at hF
 (refine NST hF hH ?_; clear hF hH; rintro rfl rfl)
 refine WO ?_
 first | refine ZS ?_ | (refine G1 rfl ?_; refine zf rfl (zc false (fun _ => moment_v _) rfl .fn rfl (by decide) (by kernel_rfl) rfl (fun _ => C0 rfl) (by simp)) ?_; rintro _ _ ⟨_, _, _, ⟨rfl, rfl⟩, hF, hH⟩; rw [hat] at hF; (refine NST hF hH ?_; clear hF hH; rintro rfl rfl)) | skip
 refine WE ?_
 refine za rfl ?_
 refine ZZ ?_
 refine WR ?_
 refine zf rfl (zc false (fun _ => in2_v _ _ _) rfl .fn rfl (by decide) (by kernel_rfl) rfl (fun _ => C0 rfl) (by simp)) ?_
 rintro _ _ ⟨_, _, _, ⟨rfl, rfl⟩, hF, hH⟩
 rw [hkn] at hF
 (refine NST hF hH ?_; clear hF hH; rintro rfl rfl)
 refine WE ?_
 cases kn1
 ·refine zb rfl ?_
  refine ZZ ?_
  refine WA ?_
  exact zh [] _ rfl rfl rfl (by decide) (ZNK rfl) (fun _ => .nil) ⟨congrArg (fun z => AV.c (I z)) (by simp at hno hkn; simp [hks0, hno, hat, hkn]), rfl⟩
 refine za rfl ?_
 refine ZZ ?_
 refine WA ?_
 cases nm
 ·refine zb rfl ?_
  refine ZZ ?_
  refine WA ?_
  exact zh [] _ rfl rfl rfl (by decide) (ZNK rfl) (fun _ => .nil) ⟨congrArg (fun z => AV.c (I z)) (by simp at hno hkn; simp [hks0, hno, hat, hkn, ← hnm]), rfl⟩
 refine za rfl ?_
 refine ZZ ?_
 refine WA ?_
 cases nb
 ·refine zb rfl ?_
  refine ZZ ?_
  refine WA ?_
  exact zh [] _ rfl rfl rfl (by decide) (ZNK rfl) (fun _ => .nil) ⟨congrArg (fun z => AV.c (I z)) (by simp at hno hkn; simp [hks0, hno, hat, hkn, ← hnm, ← hnb]), rfl⟩
 refine za rfl ?_
 refine ZZ ?_
 refine ZR ?_
 iterate 2 refine WX1 ?_
 refine ZA (rd_neqN (a := ⟨st, no, at_, kn, pr, jb, sp, n, of_, ot⟩) (b := ⟨c0, c1, c2, c3, c4, c5, c6, c7, c8, c9⟩) hne rfl rfl rfl) ?_
 refine WE ?_
 cases ne
 ·refine za rfl ?_
  refine ZZ ?_
  refine WA ?_
  exact zh [] _ rfl rfl rfl (by decide) (ZNK rfl) (fun _ => .nil) ⟨congrArg (fun z => AV.c (I z)) (by simp at hno hkn; rw [if_neg (by simp [hks0]), if_neg (by simp [hno, hat]), if_neg (by simp [hkn]), if_neg (by rw [← hnm]; simp), if_neg (by rw [← hnb]; simp), if_neg (of_decide_eq_false hne)]), rfl⟩
 ·refine zb rfl ?_
  refine ZZ ?_
  refine WA ?_
  exact zh [] _ rfl rfl rfl (by decide) (ZNK rfl) (fun _ => .nil) ⟨congrArg (fun z => AV.c (I z)) (by simp at hno hkn; rw [if_neg (by simp [hks0]), if_neg (by simp [hno, hat]), if_neg (by simp [hkn]), if_neg (by rw [← hnm]; simp), if_neg (by rw [← hnb]; simp), if_pos (of_decide_eq_true hne)]), rfl⟩
end Go.Proofs.YtlhbfcfjepbhpaaGreatDoor
namespace Go.Proofs.YtlhbfcfjepbhpaaGreatDoor
open Go Go.RowKit
set_option maxRecDepth 100000
def cmpI (m n : Int) : Int := if m < n then -1 else if n < m then 1 else 0
theorem nanI_v (n : Int) : ACalls Tryz.prog 147 [.c (I n)] [] fun u H => u = .c (B false) ∧ H = [] := by
 have hn : ¬ n ≠ n := fun h => h rfl
 refine zg (N := 6) Tryz.func147 rfl rfl (by simp) fun E hE => ?_
 repeat' (first
  | (with_reducible refine zC ?_) | (with_reducible refine zA ?_) | (with_reducible refine zE ?_) | (with_reducible refine zI ?_) | (with_reducible refine zG ?_) | (with_reducible refine zJ ?_) | (with_reducible refine zH rfl ?_) | (with_reducible refine zF ?_) | (with_reducible refine zq ?_) | (with_reducible refine zj ?_) | (with_reducible refine zD ?_) | (with_reducible refine zt ?_)
  | refine zb rfl ?_ | refine za rfl ?_ | refine zr rfl (by assumption) ?_ | refine zo rfl (by assumption) ?_ | refine zw rfl (fun _ => ?_) (fun _ => ?_) | refine zn rfl (fun _ => ?_) (fun _ => ?_)
  | (refine zd ?_; refine WE ?_))
 exact zh [] _ rfl rfl rfl (by decide) (ZNK rfl) (fun _ => .nil) ⟨by simp, rfl⟩
theorem cmpI_v (m n : Int) : ACalls Tryz.prog 88 [.c (I m), .c (I n)] [] fun u H => u = .c (I (cmpI m n)) ∧ H = [] := by
 refine zg (N := 20) Tryz.func88 rfl rfl (by simp) fun E hE => ?_
 repeat' (first
  | (with_reducible refine zC ?_) | (with_reducible refine zA ?_) | (with_reducible refine zE ?_) | (with_reducible refine zI ?_) | (with_reducible refine zG ?_) | (with_reducible refine zJ ?_) | (with_reducible refine zH rfl ?_) | (with_reducible refine zF ?_) | (with_reducible refine zq ?_) | (with_reducible refine zj ?_) | (with_reducible refine zD ?_) | (with_reducible refine zt ?_)
  | refine zb rfl ?_ | refine za rfl ?_ | refine zr rfl (by assumption) ?_ | refine zo rfl (by assumption) ?_ | refine zw rfl (fun _ => ?_) (fun _ => ?_) | refine zn rfl (fun _ => ?_) (fun _ => ?_)
  | (refine zd (id := 1) ?_
     refine WO ?_
     refine zf rfl (zc false (fun _ => nanI_v _) rfl .fn rfl (by decide) (by kernel_rfl) rfl (fun _g => .cons (.c rfl) .nil) (by simp)) ?_
     rintro _ _ ⟨_, _, _, ⟨rfl, rfl⟩, hF, hH⟩
     (refine NST hF hH ?_; clear hF hH; rintro rfl rfl)
     refine WE ?_)
  | (refine zd (id := 2) ?_
     refine WO ?_
     refine zf rfl (zc false (fun _ => nanI_v _) rfl .fn rfl (by decide) (by kernel_rfl) rfl (fun _g => .cons (.c rfl) .nil) (by simp)) ?_
     rintro _ _ ⟨_, _, _, ⟨rfl, rfl⟩, hF, hH⟩
     (refine NST hF hH ?_; clear hF hH; rintro rfl rfl)
     refine WE ?_)
  | (refine zd ?_; refine WE ?_))
 all_goals (refine zh [] _ rfl rfl rfl (by decide) (ZNK rfl) (fun _ => .nil) ⟨?_, rfl⟩)
 all_goals (unfold cmpI; first | rw [if_pos (by omega)] | rw [if_neg (by omega), if_pos (by omega)] | rw [if_neg (by omega), if_neg (by omega)])
end Go.Proofs.YtlhbfcfjepbhpaaGreatDoor
