/- Guarded effects of drawn regions. -/
import Derived.Test.YtlhbfcfjepbhpaaGreatDoorQav
import Derived.Test.YtlhbfcfjepbhpaaGreatDoorQaq
import Derived.Test.YtlhbfcfjepbhpaaGreatDoorQan
set_option linter.unusedSimpArgs false
set_option linter.unusedVariables false
-- NEWM
namespace Go.Proofs.YtlhbfcfjepbhpaaGreatDoor
open Go Go.RowKit
set_option maxRecDepth 100000
structure Nt where
 st : List UInt8
 no : Int
 at_ : Int
 kd : Int
 pr : List UInt8
 jb : List UInt8
 sp : List UInt8
 n : Int
 of_ : List UInt8
 ot : Int
deriving DecidableEq
def noR (x : Nt) : List CV := [T x.st, I x.no, I x.at_, I x.kd, T x.pr, T x.jb, T x.sp, I x.n, T x.of_, I x.ot]
abbrev noA (x : Nt) : AV := .a ((noR x).map .c)
structure NtS (x : Nt) : Prop where
 st : x.st.length ≤ 1000000
 pr : x.pr.length ≤ 1000000
 jb : x.jb.length ≤ 1000000
 sp : x.sp.length ≤ 1000000
 of_ : x.of_.length ≤ 1000000
def uP (k : Int) : Bool := decide (k ≠ 7)
def uJ (k : Int) : Bool := decide (k = 1)
def uS (k : Int) : Bool := decide (k = 5)
def uU (k : Int) : Bool := decide (k = 7)
def uM (k : Int) : Int := if k = 1 ∨ k = 2 then 1000 else if k = 5 ∨ k = 6 then 100000000 else 0
def usA (k : Int) : AV := .a [.c (B (uP k)), .c (B (uJ k)), .c (B (uS k)), .c (B (uU k)), .c (I (uM k))]
theorem usesof_v (k : Int) : ACalls Tryz.prog 109 [.c (I k)] [] fun u H => u = usA k ∧ H = [] := by
 refine zg (N := 23) Tryz.func109 rfl rfl (by simp) fun E hE => ?_
 by_cases h7 : k = 7
 ·subst h7
  repeat' (first
   | (with_reducible refine zI ?_) | (with_reducible refine zH ?_) | (with_reducible refine zK ?_) | (with_reducible refine zP ?_) | (with_reducible refine zM ?_) | (with_reducible refine zQ ?_) | (with_reducible refine zO rfl ?_) | (with_reducible refine zL ?_) | (with_reducible refine zu ?_) | (with_reducible refine zn ?_) | (with_reducible refine zJ ?_) | (with_reducible refine zz ?_)
   | refine zb rfl ?_ | refine za rfl ?_ | refine zw rfl (by assumption) ?_ | refine zt rfl (by assumption) ?_ | refine zq rfl (fun _ => ?_) (fun _ => ?_) | refine zp rfl (fun _ => ?_) (fun _ => ?_)
   | (refine zd ?_; refine WE ?_))
  exact aret_a [] _ rfl (KK (t := 183) rfl) rfl (Cells.box rfl) (by first | (simp; done) | exact Nat.le_refl 5) (by (try simp only [nm, putL, Nat.reduceAdd, cellsOf, cvOf]) <;> rfl) (by decide) (ZNK rfl) (fun _ => C0 rfl) (fun _ => .nil) ⟨rfl, rfl⟩
 by_cases h1 : k = 1
 ·subst h1
  repeat' (first
   | (with_reducible refine zI ?_) | (with_reducible refine zH ?_) | (with_reducible refine zK ?_) | (with_reducible refine zP ?_) | (with_reducible refine zM ?_) | (with_reducible refine zQ ?_) | (with_reducible refine zO rfl ?_) | (with_reducible refine zL ?_) | (with_reducible refine zu ?_) | (with_reducible refine zn ?_) | (with_reducible refine zJ ?_) | (with_reducible refine zz ?_)
   | refine zb rfl ?_ | refine za rfl ?_ | refine zw rfl (by assumption) ?_ | refine zt rfl (by assumption) ?_ | refine zq rfl (fun _ => ?_) (fun _ => ?_) | refine zp rfl (fun _ => ?_) (fun _ => ?_)
   | (refine zd ?_; refine WE ?_))
  exact aret_a [] _ rfl (KK (t := 183) rfl) rfl (Cells.box rfl) (by first | (simp; done) | exact Nat.le_refl 5) (by (try simp only [nm, putL, Nat.reduceAdd, cellsOf, cvOf]) <;> rfl) (by decide) (ZNK rfl) (fun _ => C0 rfl) (fun _ => .nil) ⟨rfl, rfl⟩
 by_cases h2 : k = 2
 ·subst h2
  repeat' (first
   | (with_reducible refine zI ?_) | (with_reducible refine zH ?_) | (with_reducible refine zK ?_) | (with_reducible refine zP ?_) | (with_reducible refine zM ?_) | (with_reducible refine zQ ?_) | (with_reducible refine zO rfl ?_) | (with_reducible refine zL ?_) | (with_reducible refine zu ?_) | (with_reducible refine zn ?_) | (with_reducible refine zJ ?_) | (with_reducible refine zz ?_)
   | refine zb rfl ?_ | refine za rfl ?_ | refine zw rfl (by assumption) ?_ | refine zt rfl (by assumption) ?_ | refine zq rfl (fun _ => ?_) (fun _ => ?_) | refine zp rfl (fun _ => ?_) (fun _ => ?_)
   | (refine zd ?_; refine WE ?_))
  exact aret_a [] _ rfl (KK (t := 183) rfl) rfl (Cells.box rfl) (by first | (simp; done) | exact Nat.le_refl 5) (by (try simp only [nm, putL, Nat.reduceAdd, cellsOf, cvOf]) <;> rfl) (by decide) (ZNK rfl) (fun _ => C0 rfl) (fun _ => .nil) ⟨rfl, rfl⟩
 by_cases h5 : k = 5
 ·subst h5
  repeat' (first
   | (with_reducible refine zI ?_) | (with_reducible refine zH ?_) | (with_reducible refine zK ?_) | (with_reducible refine zP ?_) | (with_reducible refine zM ?_) | (with_reducible refine zQ ?_) | (with_reducible refine zO rfl ?_) | (with_reducible refine zL ?_) | (with_reducible refine zu ?_) | (with_reducible refine zn ?_) | (with_reducible refine zJ ?_) | (with_reducible refine zz ?_)
   | refine zb rfl ?_ | refine za rfl ?_ | refine zw rfl (by assumption) ?_ | refine zt rfl (by assumption) ?_ | refine zq rfl (fun _ => ?_) (fun _ => ?_) | refine zp rfl (fun _ => ?_) (fun _ => ?_)
   | (refine zd ?_; refine WE ?_))
  exact aret_a [] _ rfl (KK (t := 183) rfl) rfl (Cells.box rfl) (by first | (simp; done) | exact Nat.le_refl 5) (by (try simp only [nm, putL, Nat.reduceAdd, cellsOf, cvOf]) <;> rfl) (by decide) (ZNK rfl) (fun _ => C0 rfl) (fun _ => .nil) ⟨rfl, rfl⟩
 by_cases h6 : k = 6
 ·subst h6
  repeat' (first
   | (with_reducible refine zI ?_) | (with_reducible refine zH ?_) | (with_reducible refine zK ?_) | (with_reducible refine zP ?_) | (with_reducible refine zM ?_) | (with_reducible refine zQ ?_) | (with_reducible refine zO rfl ?_) | (with_reducible refine zL ?_) | (with_reducible refine zu ?_) | (with_reducible refine zn ?_) | (with_reducible refine zJ ?_) | (with_reducible refine zz ?_)
   | refine zb rfl ?_ | refine za rfl ?_ | refine zw rfl (by assumption) ?_ | refine zt rfl (by assumption) ?_ | refine zq rfl (fun _ => ?_) (fun _ => ?_) | refine zp rfl (fun _ => ?_) (fun _ => ?_)
   | (refine zd ?_; refine WE ?_))
  exact aret_a [] _ rfl (KK (t := 183) rfl) rfl (Cells.box rfl) (by first | (simp; done) | exact Nat.le_refl 5) (by (try simp only [nm, putL, Nat.reduceAdd, cellsOf, cvOf]) <;> rfl) (by decide) (ZNK rfl) (fun _ => C0 rfl) (fun _ => .nil) ⟨rfl, rfl⟩
 repeat' (first
  | (with_reducible refine zI ?_) | (with_reducible refine zH ?_) | (with_reducible refine zK ?_) | (with_reducible refine zP ?_) | (with_reducible refine zM ?_) | (with_reducible refine zQ ?_) | (with_reducible refine zO rfl ?_) | (with_reducible refine zL ?_) | (with_reducible refine zu ?_) | (with_reducible refine zn ?_) | (with_reducible refine zJ ?_) | (with_reducible refine zz ?_)
  | refine zb rfl ?_ | refine za rfl ?_ | refine zw rfl (by assumption) ?_ | refine zt rfl (by assumption) ?_ | refine zq rfl (fun _ => ?_) (fun _ => ?_) | refine zp rfl (fun _ => ?_) (fun _ => ?_)
  | (refine zd ?_; refine WE ?_))
 exact aret_a [] _ rfl (KK (t := 183) rfl) rfl (Cells.box rfl) (by first | (simp; done) | exact Nat.le_refl 5) (by (try simp only [nm, putL, Nat.reduceAdd, cellsOf, cvOf]) <;> rfl) (by decide) (ZNK rfl) (fun _ => C0 rfl) (fun _ => .nil) ⟨by simp [usA, uP, uJ, uS, uU, uM, h7, h1, h2, h5, h6], rfl⟩
def ntF (x : Nt) : Int :=
 if keyB x.st = false then 5
 else if outB x.no 1 1000000 = true ∨ moB x.at_ = false then 1
 else if outB x.kd 1 7 = true then 4
 else if (uP x.kd = true ∧ keyB x.pr = false) ∨ (uJ x.kd = true ∧ keyB x.jb = false) ∨ (uS x.kd = true ∧ keyB x.sp = false) ∨ (uU x.kd = true ∧ keyB x.of_ = false) then 5
 else if (0 < uM x.kd ∧ outB x.n 1 (uM x.kd) = true) ∨ (uU x.kd = true ∧ outB x.ot 1 1000000 = true) then 1
 else if (uP x.kd = false ∧ ¬ x.pr = []) ∨ (uJ x.kd = false ∧ ¬ x.jb = []) ∨ (uS x.kd = false ∧ ¬ x.sp = []) ∨ (uM x.kd = 0 ∧ ¬ x.n = 0) ∨ (uU x.kd = false ∧ (¬ x.of_ = [] ∨ ¬ x.ot = 0)) then 3
 else 0
theorem sB {b : Bool} {X : Prop} (h : X) : b = true ∨ (b = false ∧ X) := by
 cases b
 ·exact .inr ⟨rfl, h⟩
 ·exact .inl rfl
theorem us_four (k : Int) : (uP k = true ∧ uJ k = true ∧ uS k = false ∧ uU k = false) ∨ (uP k = true ∧ uJ k = false ∧ uS k = false ∧ uU k = false) ∨ (uP k = true ∧ uJ k = false ∧ uS k = true ∧ uU k = false) ∨ (uP k = false ∧ uJ k = false ∧ uS k = false ∧ uU k = true) := by
 by_cases h7 : k = 7
 ·subst h7; simp [uP, uJ, uS, uU]
 by_cases h1 : k = 1
 ·subst h1; simp [uP, uJ, uS, uU]
 by_cases h5 : k = 5
 ·subst h5; simp [uP, uJ, uS, uU]
 simp [uP, uJ, uS, uU, h7, h1, h5]
set_option maxHeartbeats 4000000 in
theorem formed_v (x : Nt) (hx : NtS x) : ACalls Tryz.prog 72 [noA x] [] fun u H => u = .c (I (ntF x)) ∧ H = [] := by
 obtain ⟨st, no, at_, kn, pr, jb, sp, n, of_, ot⟩ := x
 obtain ⟨b1, b2, b3, b4, b5⟩ := hx
 simp only at b1 b2 b3 b4 b5
 show ACalls _ _ [.a [.c (T st), .c (I no), .c (I at_), .c (I kn), .c (T pr), .c (T jb), .c (T sp), .c (I n), .c (T of_), .c (I ot)]] [] _
 obtain ⟨ks0, hks0⟩ : ∃ q, keyB st = q := ⟨_, rfl⟩
 obtain ⟨no1, hno⟩ : ∃ q, outB no 1 1000000 = q := ⟨_, rfl⟩
 obtain ⟨at1, hat⟩ : ∃ q, moB at_ = q := ⟨_, rfl⟩
 obtain ⟨kd1, hkd⟩ : ∃ q, outB kn 1 7 = q := ⟨_, rfl⟩
 obtain ⟨kp, hkp⟩ : ∃ q, keyB pr = q := ⟨_, rfl⟩
 obtain ⟨kj, hkj⟩ : ∃ q, keyB jb = q := ⟨_, rfl⟩
 obtain ⟨ks, hks⟩ : ∃ q, keyB sp = q := ⟨_, rfl⟩
 obtain ⟨ko, hko⟩ : ∃ q, keyB of_ = q := ⟨_, rfl⟩
 obtain ⟨oo, hoo⟩ : ∃ q, outB ot 1 1000000 = q := ⟨_, rfl⟩
 obtain ⟨np, hnp⟩ : ∃ q, decide (pr ≠ []) = q := ⟨_, rfl⟩
 obtain ⟨nj, hnj⟩ : ∃ q, decide (jb ≠ []) = q := ⟨_, rfl⟩
 obtain ⟨ns, hns⟩ : ∃ q, decide (sp ≠ []) = q := ⟨_, rfl⟩
 obtain ⟨nf, hnf⟩ : ∃ q, decide (of_ ≠ []) = q := ⟨_, rfl⟩
 refine zg (N := 139) Tryz.func72 rfl rfl (by simp) fun E hE => ?_
 refine WA ?_
 refine WR ?_
 refine zh rfl (zc false (fun _ => iskey_v _ (by omega)) rfl .fn rfl (by decide) (by kernel_rfl) rfl (fun _ => C0 rfl) (by simp)) ?_
 rintro _ _ ⟨_, _, _, ⟨rfl, rfl⟩, hF, hH⟩
 rw [hks0] at hF
 (refine NST hF hH ?_; clear hF hH; rintro rfl rfl)
 refine WE ?_
 cases ks0
 ·refine zb rfl ?_
  refine ZZ ?_
  refine WA ?_
  exact zf [] _ rfl rfl rfl (by decide) (ZNK rfl) (fun _ => .nil) ⟨congrArg (fun z => AV.c (I z)) (by simp [ntF, hks0]), rfl⟩
 refine za rfl ?_
 refine ZZ ?_
 cases no1
 rotate_left
 ·refine WR ?_
  refine zh rfl (zc false (fun _ => out_v _ _ _) rfl .fn rfl (by decide) (by kernel_rfl) rfl (fun _ => C0 rfl) (by simp)) ?_
  rintro _ _ ⟨_, _, _, ⟨rfl, rfl⟩, hF, hH⟩
  rw [hno] at hF
  (refine NST hF hH ?_; clear hF hH; rintro rfl rfl)
  refine WO ?_
  first | refine ZS ?_ | (refine G1 rfl ?_; refine zh rfl (zc false (fun _ => zi3 _) rfl .fn rfl (by decide) (by kernel_rfl) rfl (fun _ => C0 rfl) (by simp)) ?_; rintro _ _ ⟨_, _, _, ⟨rfl, rfl⟩, hF, hH⟩; rw [hat] at hF; (refine NST hF hH ?_; clear hF hH; rintro rfl rfl)) | skip
  refine WE ?_
  refine zb rfl ?_
  refine ZZ ?_
  refine WA ?_
  exact zf [] _ rfl rfl rfl (by decide) (ZNK rfl) (fun _ => .nil) ⟨congrArg (fun z => AV.c (I z)) (by simp [ntF, hks0, hno]), rfl⟩
 cases at1
 ·refine WR ?_
  refine zh rfl (zc false (fun _ => out_v _ _ _) rfl .fn rfl (by decide) (by kernel_rfl) rfl (fun _ => C0 rfl) (by simp)) ?_
  rintro _ _ ⟨_, _, _, ⟨rfl, rfl⟩, hF, hH⟩
  rw [hno] at hF
  (refine NST hF hH ?_; clear hF hH; rintro rfl rfl)
  refine WO ?_
  first | refine ZS ?_ | (refine G1 rfl ?_; refine zh rfl (zc false (fun _ => zi3 _) rfl .fn rfl (by decide) (by kernel_rfl) rfl (fun _ => C0 rfl) (by simp)) ?_; rintro _ _ ⟨_, _, _, ⟨rfl, rfl⟩, hF, hH⟩; rw [hat] at hF; (refine NST hF hH ?_; clear hF hH; rintro rfl rfl)) | skip
  refine WE ?_
  refine zb rfl ?_
  refine ZZ ?_
  refine WA ?_
  exact zf [] _ rfl rfl rfl (by decide) (ZNK rfl) (fun _ => .nil) ⟨congrArg (fun z => AV.c (I z)) (by simp [ntF, hks0, hno, hat]), rfl⟩
 refine WR ?_
 refine zh rfl (zc false (fun _ => out_v _ _ _) rfl .fn rfl (by decide) (by kernel_rfl) rfl (fun _ => C0 rfl) (by simp)) ?_
 rintro _ _ ⟨_, _, _, ⟨rfl, rfl⟩, hF, hH⟩
 rw [hno] at hF
 (refine NST hF hH ?_; clear hF hH; rintro rfl rfl)
 refine WO ?_
 first | refine ZS ?_ | (refine G1 rfl ?_; refine zh rfl (zc false (fun _ => zi3 _) rfl .fn rfl (by decide) (by kernel_rfl) rfl (fun _ => C0 rfl) (by simp)) ?_; rintro _ _ ⟨_, _, _, ⟨rfl, rfl⟩, hF, hH⟩; rw [hat] at hF; (refine NST hF hH ?_; clear hF hH; rintro rfl rfl)) | skip
 refine WE ?_
 refine za rfl ?_
 refine ZZ ?_
 refine WR ?_
 refine zh rfl (zc false (fun _ => out_v _ _ _) rfl .fn rfl (by decide) (by kernel_rfl) rfl (fun _ => C0 rfl) (by simp)) ?_
 rintro _ _ ⟨_, _, _, ⟨rfl, rfl⟩, hF, hH⟩
 rw [hkd] at hF
 (refine NST hF hH ?_; clear hF hH; rintro rfl rfl)
 refine WE ?_
 cases kd1
 rotate_left
 ·refine zb rfl ?_
  refine ZZ ?_
  refine WA ?_
  exact zf [] _ rfl rfl rfl (by decide) (ZNK rfl) (fun _ => .nil) ⟨congrArg (fun z => AV.c (I z)) (by simp [ntF, hks0, hno, hat, hkd]), rfl⟩
 refine za rfl ?_
 refine ZZ ?_
 have h4 := us_four kn
 obtain ⟨P, hP⟩ : ∃ q, uP kn = q := ⟨_, rfl⟩
 obtain ⟨J, hJ⟩ : ∃ q, uJ kn = q := ⟨_, rfl⟩
 obtain ⟨S, hS⟩ : ∃ q, uS kn = q := ⟨_, rfl⟩
 obtain ⟨U, hU⟩ : ∃ q, uU kn = q := ⟨_, rfl⟩
 obtain ⟨M, hM⟩ : ∃ q, uM kn = q := ⟨_, rfl⟩
 rw [hP, hJ, hS, hU] at h4
 obtain ⟨on, hon⟩ : ∃ q, outB n 1 M = q := ⟨_, rfl⟩
 obtain ⟨q8, h8⟩ : ∃ q, (P && !kp || J && !kj || S && !ks || U && !ko) = q := ⟨_, rfl⟩
 obtain ⟨q10, h10⟩ : ∃ q, (decide (0 < M) && on || U && oo) = q := ⟨_, rfl⟩
 obtain ⟨q12, h12⟩ : ∃ q, (!P && np || !J && nj || !S && ns || decide (M = 0) && decide (¬ n = 0) || !U && (nf || decide (¬ ot = 0))) = q := ⟨_, rfl⟩
 have e0 : ntF ⟨st, no, at_, kn, pr, jb, sp, n, of_, ot⟩ = if q8 = true then 5 else if q10 = true then 1 else if q12 = true then 3 else 0 := by
  unfold ntF
  simp only
  rw [if_neg (by rw [hks0]; decide), if_neg (by rw [hno, hat]; decide), if_neg (by rw [hkd]; decide), hkp, hkj, hks, hko, hP, hJ, hS, hU, hM, hon, hoo, ← h8, ← h10, ← h12, ← hnp, ← hnj, ← hns, ← hnf]
  simp only [Bool.or_eq_true, Bool.and_eq_true, Bool.not_eq_true', decide_eq_true_eq, or_assoc, ne_eq]
 rw [e0]
 clear e0 hks0 hno hat hkd
 refine WR ?_
 refine zh rfl (zc false (fun _ => usesof_v kn) rfl .fn rfl (by decide) (by kernel_rfl) rfl (fun _ => C0 rfl) (by simp)) ?_
 rintro _ _ ⟨_, _, _, ⟨rfl, rfl⟩, hF, hH⟩
 rw [usA, hP, hJ, hS, hU, hM] at hF
 (refine NST hF hH ?_; clear hF hH; rintro rfl rfl)
 refine WE ?_
 refine zM2 (fun F H => F = [(1, .p 0 0 0), (3, .p 1 0 0), (26, .c (B q8))] ∧ H = [.box [.c (T st), .c (I no), .c (I at_), .c (I kn), .c (T pr), .c (T jb), .c (T sp), .c (I n), .c (T of_), .c (I ot)], .box [.c (B P), .c (B J), .c (B S), .c (B U), .c (I M)]]) ?_ ?_ zn4
 ·subst h8
  have hl : (P = true ∧ kp = false) ∨ (P = true ∧ kp = true ∧ ((J = true ∧ S = false ∧ U = false ∧ (kj = true ∨ (kj = false ∧ True))) ∨ (J = false ∧ S = false ∧ U = false) ∨ (J = false ∧ S = true ∧ U = false ∧ (ks = true ∨ (ks = false ∧ True))))) ∨ (P = false ∧ J = false ∧ S = false ∧ U = true ∧ (ko = true ∨ (ko = false ∧ True))) := by
   rcases h4 with ⟨h1, h2, h3, h4⟩ | ⟨h1, h2, h3, h4⟩ | ⟨h1, h2, h3, h4⟩ | ⟨h1, h2, h3, h4⟩
   ·cases kp
    ·exact .inl ⟨h1, rfl⟩
    ·exact .inr (.inl ⟨h1, rfl, .inl ⟨h2, h3, h4, sB trivial⟩⟩)
   ·cases kp
    ·exact .inl ⟨h1, rfl⟩
    ·exact .inr (.inl ⟨h1, rfl, .inr (.inl ⟨h2, h3, h4⟩)⟩)
   ·cases kp
    ·exact .inl ⟨h1, rfl⟩
    ·exact .inr (.inl ⟨h1, rfl, .inr (.inr ⟨h2, h3, h4, sB trivial⟩)⟩)
   ·exact .inr (.inr ⟨h1, h2, h3, h4, sB trivial⟩)
  clear h4
  rcases hl with ⟨rfl, rfl⟩ | ⟨rfl, rfl, ⟨rfl, rfl, rfl, rfl | ⟨rfl, -⟩⟩ | ⟨rfl, rfl, rfl⟩ | ⟨rfl, rfl, rfl, rfl | ⟨rfl, -⟩⟩⟩ | ⟨rfl, rfl, rfl, rfl, rfl | ⟨rfl, -⟩⟩
  all_goals (
   refine WR ?_
   first | refine ZS ?_ | (refine G1 rfl ?_; refine zh rfl (zc false (fun _ => iskey_v _ (by omega)) rfl .fn rfl (by decide) (by kernel_rfl) rfl (fun _ => C0 rfl) (by simp)) ?_; rintro _ _ ⟨_, _, _, ⟨rfl, rfl⟩, hF, hH⟩; rw [hkp] at hF; (refine NST hF hH ?_; clear hF hH; rintro rfl rfl)) | skip
   refine WO ?_
   first | refine ZS ?_ | (refine G1 rfl ?_; refine zh rfl (zc false (fun _ => iskey_v _ (by omega)) rfl .fn rfl (by decide) (by kernel_rfl) rfl (fun _ => C0 rfl) (by simp)) ?_; rintro _ _ ⟨_, _, _, ⟨rfl, rfl⟩, hF, hH⟩; rw [hkj] at hF; (refine NST hF hH ?_; clear hF hH; rintro rfl rfl)) | skip
   refine WO ?_
   first | refine ZS ?_ | (refine G1 rfl ?_; refine zh rfl (zc false (fun _ => iskey_v _ (by omega)) rfl .fn rfl (by decide) (by kernel_rfl) rfl (fun _ => C0 rfl) (by simp)) ?_; rintro _ _ ⟨_, _, _, ⟨rfl, rfl⟩, hF, hH⟩; rw [hks] at hF; (refine NST hF hH ?_; clear hF hH; rintro rfl rfl)) | skip
   refine WO ?_
   first | refine ZS ?_ | (refine G1 rfl ?_; refine zh rfl (zc false (fun _ => iskey_v _ (by omega)) rfl .fn rfl (by decide) (by kernel_rfl) rfl (fun _ => C0 rfl) (by simp)) ?_; rintro _ _ ⟨_, _, _, ⟨rfl, rfl⟩, hF, hH⟩; rw [hko] at hF; (refine NST hF hH ?_; clear hF hH; rintro rfl rfl)) | skip
   refine WE ?_
   refine zl [some 0, some 1] (fun _ => _) (fun _ => _) (by decide) (ZNL hE) ?_ ?_ (fun _ => ⟨rfl, rfl⟩)
   ·exact fun _ => .cons rfl (.p rfl) (.cons rfl (.p rfl) (.cons rfl (.c rfl) .nil))
   ·exact ZCH)
 rintro F H ⟨rfl, rfl⟩
 refine ZZ ?_
 cases q8
 rotate_left
 ·refine zb rfl ?_
  refine ZZ ?_
  refine WA ?_
  exact zf [] _ rfl rfl rfl (by decide) (ZNK rfl) (fun _ => .nil) ⟨rfl, rfl⟩
 refine za rfl ?_
 refine ZZ ?_
 clear h8
 refine zM2 (fun F H => F = [(1, .p 0 0 0), (3, .p 1 0 0), (65, .c (B q10))] ∧ H = [.box [.c (T st), .c (I no), .c (I at_), .c (I kn), .c (T pr), .c (T jb), .c (T sp), .c (I n), .c (T of_), .c (I ot)], .box [.c (B P), .c (B J), .c (B S), .c (B U), .c (I M)]]) ?_ ?_ zn4
 ·subst h10
  clear h12 h4
  by_cases hM0 : 0 < M
  all_goals (cases on <;> cases U <;> cases oo)
  all_goals (
   refine WR ?_
   first | refine ZS ?_ | (refine G1 rfl ?_; refine zh rfl (zc false (fun _ => out_v _ _ _) rfl .fn rfl (by decide) (by kernel_rfl) rfl (fun _ => C0 rfl) (by simp)) ?_; rintro _ _ ⟨_, _, _, ⟨rfl, rfl⟩, hF, hH⟩; rw [hon] at hF; (refine NST hF hH ?_; clear hF hH; rintro rfl rfl)) | skip
   refine WO ?_
   first | refine ZS ?_ | (refine G1 rfl ?_; refine zh rfl (zc false (fun _ => out_v _ _ _) rfl .fn rfl (by decide) (by kernel_rfl) rfl (fun _ => C0 rfl) (by simp)) ?_; rintro _ _ ⟨_, _, _, ⟨rfl, rfl⟩, hF, hH⟩; rw [hoo] at hF; (refine NST hF hH ?_; clear hF hH; rintro rfl rfl)) | skip
   refine WE ?_
   refine zl [some 0, some 1] (fun _ => _) (fun _ => _) (by decide) (ZNL hE) ?_ ?_ (fun _ => ⟨rfl, rfl⟩)
   ·exact fun _ => .cons rfl (.p rfl) (.cons rfl (.p rfl) (.cons rfl (.c (by first | rfl | (simp [hM0]; done))) .nil))
   ·exact ZCH)
 rintro F H ⟨rfl, rfl⟩
 refine ZZ ?_
 cases q10
 rotate_left
 ·refine zb rfl ?_
  refine ZZ ?_
  refine WA ?_
  exact zf [] _ rfl rfl rfl (by decide) (ZNK rfl) (fun _ => .nil) ⟨rfl, rfl⟩
 refine za rfl ?_
 refine ZZ ?_
 clear h10
 refine zM2 (fun F H => F = [(1, .p 0 0 0), (3, .p 1 0 0), (85, .c (B q12))] ∧ H = [.box [.c (T st), .c (I no), .c (I at_), .c (I kn), .c (T pr), .c (T jb), .c (T sp), .c (I n), .c (T of_), .c (I ot)], .box [.c (B P), .c (B J), .c (B S), .c (B U), .c (I M)]]) ?_ ?_ zn4
 ·subst h12
  have hR : nf = true ∨ (nf = false ∧ (¬ ot = 0 ∨ ot = 0)) := sB (Decidable.em (ot = 0)).symm
  have hY : (M = 0 ∧ ¬ n = 0) ∨ ((M = 0 ∧ n = 0) ∨ ¬ M = 0) := by omega
  have hX : ((M = 0 ∧ ¬ n = 0) ∨ (((M = 0 ∧ n = 0) ∨ ¬ M = 0) ∧ (nf = true ∨ (nf = false ∧ (¬ ot = 0 ∨ ot = 0))))) := hY.imp id fun h => ⟨h, hR⟩
  have hl : (P = true ∧ J = true ∧ S = false ∧ U = false ∧ (ns = true ∨ (ns = false ∧ ((M = 0 ∧ ¬ n = 0) ∨ (((M = 0 ∧ n = 0) ∨ ¬ M = 0) ∧ (nf = true ∨ (nf = false ∧ (¬ ot = 0 ∨ ot = 0)))))))) ∨ (P = true ∧ J = false ∧ S = false ∧ U = false ∧ (nj = true ∨ (nj = false ∧ (ns = true ∨ (ns = false ∧ ((M = 0 ∧ ¬ n = 0) ∨ (((M = 0 ∧ n = 0) ∨ ¬ M = 0) ∧ (nf = true ∨ (nf = false ∧ (¬ ot = 0 ∨ ot = 0)))))))))) ∨ (P = true ∧ J = false ∧ S = true ∧ U = false ∧ (nj = true ∨ (nj = false ∧ ((M = 0 ∧ ¬ n = 0) ∨ (((M = 0 ∧ n = 0) ∨ ¬ M = 0) ∧ (nf = true ∨ (nf = false ∧ (¬ ot = 0 ∨ ot = 0)))))))) ∨ (P = false ∧ J = false ∧ S = false ∧ U = true ∧ (np = true ∨ (np = false ∧ (nj = true ∨ (nj = false ∧ (ns = true ∨ (ns = false ∧ ((M = 0 ∧ ¬ n = 0) ∨ ((M = 0 ∧ n = 0) ∨ ¬ M = 0))))))))) := by
   rcases h4 with ⟨h1, h2, h3, h4⟩ | ⟨h1, h2, h3, h4⟩ | ⟨h1, h2, h3, h4⟩ | ⟨h1, h2, h3, h4⟩
   ·exact .inl ⟨h1, h2, h3, h4, sB hX⟩
   ·exact .inr (.inl ⟨h1, h2, h3, h4, sB (sB hX)⟩)
   ·exact .inr (.inr (.inl ⟨h1, h2, h3, h4, sB hX⟩))
   ·exact .inr (.inr (.inr ⟨h1, h2, h3, h4, sB (sB (sB hY))⟩))
  clear h4 hR hX hY
  rcases hl with ⟨rfl, rfl, rfl, rfl, rfl | ⟨rfl, ⟨hM0, hn0⟩ | ⟨⟨hM0, hn0⟩ | hM0, rfl | ⟨rfl, hot | hot⟩⟩⟩⟩ | ⟨rfl, rfl, rfl, rfl, rfl | ⟨rfl, rfl | ⟨rfl, ⟨hM0, hn0⟩ | ⟨⟨hM0, hn0⟩ | hM0, rfl | ⟨rfl, hot | hot⟩⟩⟩⟩⟩ | ⟨rfl, rfl, rfl, rfl, rfl | ⟨rfl, ⟨hM0, hn0⟩ | ⟨⟨hM0, hn0⟩ | hM0, rfl | ⟨rfl, hot | hot⟩⟩⟩⟩ | ⟨rfl, rfl, rfl, rfl, rfl | ⟨rfl, rfl | ⟨rfl, rfl | ⟨rfl, ⟨hM0, hn0⟩ | ⟨hM0, hn0⟩ | hM0⟩⟩⟩⟩
  all_goals (
   refine ZR ?_
   iterate 6 refine WX1 ?_
   first | refine ZP (zb2 (b := []) hnp rfl Tryz.underlying9 rfl rfl) ?_ | refine ZS ?_
   iterate 8 refine WX1 ?_
   first | refine ZP (zb2 (b := []) hnj rfl Tryz.underlying9 rfl rfl) ?_ | refine ZS ?_
   iterate 9 refine WX1 ?_
   first | refine ZP (zb2 (b := []) hns rfl Tryz.underlying9 rfl rfl) ?_ | refine ZS ?_
   iterate 19 refine WX1 ?_
   first | refine ZP (zb2 (b := []) hnf rfl Tryz.underlying9 rfl rfl) ?_ | refine ZS ?_
   refine WE ?_
   refine zl [some 0, some 1] (fun _ => _) (fun _ => _) (by decide) (ZNL hE) ?_ ?_ (fun _ => ⟨rfl, rfl⟩)
   ·exact fun _ => .cons rfl (.p rfl) (.cons rfl (.p rfl) (.cons rfl (.c (by first | rfl | (simp [hM0, hn0, hot]; done) | (simp [hM0, hn0]; done) | (simp [hM0, hot]; done) | (simp [hM0]; done))) .nil))
   ·exact ZCH)
 rintro F H ⟨rfl, rfl⟩
 refine ZZ ?_
 cases q12
 rotate_left
 ·refine zb rfl ?_
  refine ZZ ?_
  refine WA ?_
  exact zf [] _ rfl rfl rfl (by decide) (ZNK rfl) (fun _ => .nil) ⟨rfl, rfl⟩
 refine za rfl ?_
 refine ZZ ?_
 refine WA ?_
 exact zf [] _ rfl rfl rfl (by decide) (ZNK rfl) (fun _ => .nil) ⟨rfl, rfl⟩
end Go.Proofs.YtlhbfcfjepbhpaaGreatDoor
-- NEWM
namespace Go.Proofs.YtlhbfcfjepbhpaaGreatDoor
open Go Go.RowKit
set_option maxRecDepth 100000
section
variable {N : Nat} {E : Env} {o : Oper} {F : Fm} {H : List OB} {x y : Operand} {yt : TypeId}
theorem nt_eq {a b : Nt} : a = b ↔ a.st = b.st ∧ a.no = b.no ∧ a.at_ = b.at_ ∧ a.kd = b.kd ∧ a.pr = b.pr ∧ a.jb = b.jb ∧ a.sp = b.sp ∧ a.n = b.n ∧ a.of_ = b.of_ ∧ a.ot = b.ot := by
 cases a; cases b; simp
theorem rd_neqN0 {a0 a4 a5 a6 a8 : ByteArray} {a1 a2 a3 a7 a9 : Int} {b0 b4 b5 b6 b8 : ByteArray} {b1 b2 b3 b7 b9 : Int} (ho : o.op = .binOp .neq 39 x y yt) (hx : ev F x = some (.a [.c (.s (.string a0)), .c (.s (.int .i64 a1)), .c (.s (.int .i64 a2)), .c (.s (.int .i64 a3)), .c (.s (.string a4)), .c (.s (.string a5)), .c (.s (.string a6)), .c (.s (.int .i64 a7)), .c (.s (.string a8)), .c (.s (.int .i64 a9))])) (hy : ev F y = some (.a [.c (.s (.string b0)), .c (.s (.int .i64 b1)), .c (.s (.int .i64 b2)), .c (.s (.int .i64 b3)), .c (.s (.string b4)), .c (.s (.string b5)), .c (.s (.string b6)), .c (.s (.int .i64 b7)), .c (.s (.string b8)), .c (.s (.int .i64 b9))])) : Rd Tryz.prog N E o F H (.c (.s (.bool (decide (¬ (a0.toList = b0.toList ∧ a1 = b1 ∧ a2 = b2 ∧ a3 = b3 ∧ a4.toList = b4.toList ∧ a5.toList = b5.toList ∧ a6.toList = b6.toList ∧ a7 = b7 ∧ a8.toList = b8.toList ∧ a9 = b9)))))) :=
 zj2 (dx := .agg #[.string a0, .int .i64 a1, .int .i64 a2, .int .i64 a3, .string a4, .string a5, .string a6, .int .i64 a7, .string a8, .int .i64 a9]) (dy := .agg #[.string b0, .int .i64 b1, .int .i64 b2, .int .i64 b3, .string b4, .string b5, .string b6, .int .i64 b7, .string b8, .int .i64 b9]) ho hx hy (fun _ _ => by simp [AV.den, CV.den, AV.denL]) (fun _ _ => by simp [AV.den, CV.den, AV.denL]) fun w => by
  go_simp
  repeat' split
  all_goals simp_all
theorem nt_eqb {a b : Nt} : a = b ↔ (bst a.st).toList = (bst b.st).toList ∧ a.no = b.no ∧ a.at_ = b.at_ ∧ a.kd = b.kd ∧ (bst a.pr).toList = (bst b.pr).toList ∧ (bst a.jb).toList = (bst b.jb).toList ∧ (bst a.sp).toList = (bst b.sp).toList ∧ a.n = b.n ∧ (bst a.of_).toList = (bst b.of_).toList ∧ a.ot = b.ot := by
 rw [nt_eq]; simp only [zd2]
theorem rd_neqN {a b : Nt} {q : Bool} (h : decide (¬ a = b) = q) (ho : o.op = .binOp .neq 39 x y yt) (hx : ev F x = some (noA a)) (hy : ev F y = some (noA b)) : Rd Tryz.prog N E o F H (.c (.s (.bool q))) := by
 have := rd_neqN0 (N := N) (E := E) (H := H) ho hx hy
 rwa [show decide (¬ ((bst a.st).toList = (bst b.st).toList ∧ a.no = b.no ∧ a.at_ = b.at_ ∧ a.kd = b.kd ∧ (bst a.pr).toList = (bst b.pr).toList ∧ (bst a.jb).toList = (bst b.jb).toList ∧ (bst a.sp).toList = (bst b.sp).toList ∧ a.n = b.n ∧ (bst a.of_).toList = (bst b.of_).toList ∧ a.ot = b.ot)) = q by rw [← h]; exact decide_eq_decide.2 (not_congr nt_eqb.symm)] at this
end
end Go.Proofs.YtlhbfcfjepbhpaaGreatDoor
namespace Go.Proofs.YtlhbfcfjepbhpaaGreatDoor
open Go Go.RowKit
section
variable {P : Program} {N : Nat} {E : Env} {F : Fm} {H : List OB} {o : Oper} {Q : Exit → Fm → List OB → Prop} {ops : Array Oper} {i : Nat} {L : List (Nat × Option (List Nat))}
theorem wanted_no {S : Nat → Prop} {ρ : List (Option Nat)} {a : Act} {w : World} (h : gd ops o F = some false) (hR : R N E S ρ F H a w) : Region.wanted o (yielded ops a.tmps) = false := by
 obtain ⟨j, b, oj, t, h1, h2, h3, ⟨b', h4, h5⟩ | ⟨h4, _⟩⟩ := gd_of h
 ·simp only [Region.wanted, h1, zG1 hR h2 h3 h4]
  cases b <;> cases b' <;> simp_all
 ·simp [Region.wanted, h1, zf3 hR h2 h3 h4]
theorem zO2 {U : List Nat} {K : Fm → List OB → Prop} (ho : ops[i]? = some o) (hr : Ef P N E o F H K) (h : ∀ F' H', K F' H' → (∀ j ∈ U, Ag P N E ops F' H' j) ∧ AT P N E ops L F' H' Q) (hg : gok ops o F = true := by exact rfl) : AT P N E ops ((i, some U) :: L) F H Q := fun S ρ a w hR => by
 refine wpT_e ho fun K' hK => ?_
 rw [if_pos (zS2 (P := P) hg hR)]
 refine zl1 (fun a' w' hh => ?_) (hr S ρ a w hR)
 obtain ⟨S', ρ', F', H', hk, hR'⟩ := hh
 obtain ⟨h1, h2⟩ := h F' H' hk
 exact hK _ _ (fun j hj => h1 j hj S' ρ' a' w' hR') (h2 S' ρ' a' w' hR')
theorem zN2 {U : List Nat} {d : Nat} (ho : ops[i]? = some o) (hg : gd ops o F = some false) (hd : o.dst = some d) (hN : d < N) (h : (∀ j ∈ U, Ag P N E ops ((d, un) :: F) H j) ∧ AT P N E ops L ((d, un) :: F) H Q) : AT P N E ops ((i, some U) :: L) F H Q := fun S ρ a w hR => by
 refine wpT_e ho fun K' hK => ?_
 rw [if_neg (by rw [wanted_no hg hR]; simp)]
 have hR' : R N E S ρ ((d, un) :: F) H (a.put o.dst undef) w := by rw [hd]; exact hR.put hN (.c (.s _))
 exact hK _ _ (fun j hj => h.1 j hj S ρ _ w hR') (h.2 S ρ _ w hR')
end
end Go.Proofs.YtlhbfcfjepbhpaaGreatDoor
