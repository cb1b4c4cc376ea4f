/- Notes, by value: what is wrong with one (the program's). -/
import Derived.Test.YtcdeonjdipcgpaaGreatDoorQat
set_option linter.unusedSimpArgs false
set_option linter.unusedVariables false
-- NEWM
namespace Go.Proofs.YtcdeonjdipcgpaaGreatDoor
open Go Go.RowKit
set_option maxRecDepth 100000
structure Nt where
 st : List UInt8
 no : Int
 at_ : Int
 kd : Int
 pr : List UInt8
 jb : List UInt8
 sp : List UInt8
 n : Int
 of_ : List UInt8
 ot : Int
deriving DecidableEq
def noR (x : Nt) : List CV := [T x.st, I x.no, I x.at_, I x.kd, T x.pr, T x.jb, T x.sp, I x.n, T x.of_, I x.ot]
abbrev noA (x : Nt) : AV := .a ((noR x).map .c)
structure NtS (x : Nt) : Prop where
 st : x.st.length ≤ 1000000
 pr : x.pr.length ≤ 1000000
 jb : x.jb.length ≤ 1000000
 sp : x.sp.length ≤ 1000000
 of_ : x.of_.length ≤ 1000000
def uP (k : Int) : Bool := decide (k ≠ 7)
def uJ (k : Int) : Bool := decide (k = 1)
def uS (k : Int) : Bool := decide (k = 5)
def uU (k : Int) : Bool := decide (k = 7)
def uM (k : Int) : Int := if k = 1 ∨ k = 2 then 1000 else if k = 5 ∨ k = 6 then 100000000 else 0
def usA (k : Int) : AV := .a [.c (B (uP k)), .c (B (uJ k)), .c (B (uS k)), .c (B (uU k)), .c (I (uM k))]
theorem zE2 (k : Int) : ACalls Tryz.prog 197 [.c (I k)] [] fun u H => u = usA k ∧ H = [] := by
 refine zi (N := 23) Tryz.func197 rfl rfl (by simp) fun E hE => ?_
 by_cases h7 : k = 7
 ·subst h7
  repeat' (first
   | (with_reducible refine zG ?_) | (with_reducible refine zF ?_) | (with_reducible refine zL ?_) | (with_reducible refine zQ ?_) | (with_reducible refine zO ?_) | (with_reducible refine zR ?_) | (with_reducible refine zP rfl ?_) | (with_reducible refine zM ?_) | (with_reducible refine zu ?_) | (with_reducible refine zn ?_) | (with_reducible refine zK ?_) | (with_reducible refine zA ?_)
   | refine zb rfl ?_ | refine za rfl ?_ | refine zw rfl (by assumption) ?_ | refine zr rfl (by assumption) ?_ | refine zz rfl (fun _ => ?_) (fun _ => ?_) | refine zq rfl (fun _ => ?_) (fun _ => ?_)
   | (refine zg ?_; refine WE ?_))
  exact aret_a [] _ rfl (KK (t := 269) rfl) rfl (Cells.box rfl) (by first | (simp; done) | exact Nat.le_refl 5) (by (try simp only [nm, putL, Nat.reduceAdd, cellsOf, cvOf]) <;> rfl) (by decide) (ZNK rfl) (fun _ => C0 rfl) (fun _ => .nil) ⟨rfl, rfl⟩
 by_cases h1 : k = 1
 ·subst h1
  repeat' (first
   | (with_reducible refine zG ?_) | (with_reducible refine zF ?_) | (with_reducible refine zL ?_) | (with_reducible refine zQ ?_) | (with_reducible refine zO ?_) | (with_reducible refine zR ?_) | (with_reducible refine zP rfl ?_) | (with_reducible refine zM ?_) | (with_reducible refine zu ?_) | (with_reducible refine zn ?_) | (with_reducible refine zK ?_) | (with_reducible refine zA ?_)
   | refine zb rfl ?_ | refine za rfl ?_ | refine zw rfl (by assumption) ?_ | refine zr rfl (by assumption) ?_ | refine zz rfl (fun _ => ?_) (fun _ => ?_) | refine zq rfl (fun _ => ?_) (fun _ => ?_)
   | (refine zg ?_; refine WE ?_))
  exact aret_a [] _ rfl (KK (t := 269) rfl) rfl (Cells.box rfl) (by first | (simp; done) | exact Nat.le_refl 5) (by (try simp only [nm, putL, Nat.reduceAdd, cellsOf, cvOf]) <;> rfl) (by decide) (ZNK rfl) (fun _ => C0 rfl) (fun _ => .nil) ⟨rfl, rfl⟩
 by_cases h2 : k = 2
 ·subst h2
  repeat' (first
   | (with_reducible refine zG ?_) | (with_reducible refine zF ?_) | (with_reducible refine zL ?_) | (with_reducible refine zQ ?_) | (with_reducible refine zO ?_) | (with_reducible refine zR ?_) | (with_reducible refine zP rfl ?_) | (with_reducible refine zM ?_) | (with_reducible refine zu ?_) | (with_reducible refine zn ?_) | (with_reducible refine zK ?_) | (with_reducible refine zA ?_)
   | refine zb rfl ?_ | refine za rfl ?_ | refine zw rfl (by assumption) ?_ | refine zr rfl (by assumption) ?_ | refine zz rfl (fun _ => ?_) (fun _ => ?_) | refine zq rfl (fun _ => ?_) (fun _ => ?_)
   | (refine zg ?_; refine WE ?_))
  exact aret_a [] _ rfl (KK (t := 269) rfl) rfl (Cells.box rfl) (by first | (simp; done) | exact Nat.le_refl 5) (by (try simp only [nm, putL, Nat.reduceAdd, cellsOf, cvOf]) <;> rfl) (by decide) (ZNK rfl) (fun _ => C0 rfl) (fun _ => .nil) ⟨rfl, rfl⟩
 by_cases h5 : k = 5
 ·subst h5
  repeat' (first
   | (with_reducible refine zG ?_) | (with_reducible refine zF ?_) | (with_reducible refine zL ?_) | (with_reducible refine zQ ?_) | (with_reducible refine zO ?_) | (with_reducible refine zR ?_) | (with_reducible refine zP rfl ?_) | (with_reducible refine zM ?_) | (with_reducible refine zu ?_) | (with_reducible refine zn ?_) | (with_reducible refine zK ?_) | (with_reducible refine zA ?_)
   | refine zb rfl ?_ | refine za rfl ?_ | refine zw rfl (by assumption) ?_ | refine zr rfl (by assumption) ?_ | refine zz rfl (fun _ => ?_) (fun _ => ?_) | refine zq rfl (fun _ => ?_) (fun _ => ?_)
   | (refine zg ?_; refine WE ?_))
  exact aret_a [] _ rfl (KK (t := 269) rfl) rfl (Cells.box rfl) (by first | (simp; done) | exact Nat.le_refl 5) (by (try simp only [nm, putL, Nat.reduceAdd, cellsOf, cvOf]) <;> rfl) (by decide) (ZNK rfl) (fun _ => C0 rfl) (fun _ => .nil) ⟨rfl, rfl⟩
 by_cases h6 : k = 6
 ·subst h6
  repeat' (first
   | (with_reducible refine zG ?_) | (with_reducible refine zF ?_) | (with_reducible refine zL ?_) | (with_reducible refine zQ ?_) | (with_reducible refine zO ?_) | (with_reducible refine zR ?_) | (with_reducible refine zP rfl ?_) | (with_reducible refine zM ?_) | (with_reducible refine zu ?_) | (with_reducible refine zn ?_) | (with_reducible refine zK ?_) | (with_reducible refine zA ?_)
   | refine zb rfl ?_ | refine za rfl ?_ | refine zw rfl (by assumption) ?_ | refine zr rfl (by assumption) ?_ | refine zz rfl (fun _ => ?_) (fun _ => ?_) | refine zq rfl (fun _ => ?_) (fun _ => ?_)
   | (refine zg ?_; refine WE ?_))
  exact aret_a [] _ rfl (KK (t := 269) rfl) rfl (Cells.box rfl) (by first | (simp; done) | exact Nat.le_refl 5) (by (try simp only [nm, putL, Nat.reduceAdd, cellsOf, cvOf]) <;> rfl) (by decide) (ZNK rfl) (fun _ => C0 rfl) (fun _ => .nil) ⟨rfl, rfl⟩
 repeat' (first
  | (with_reducible refine zG ?_) | (with_reducible refine zF ?_) | (with_reducible refine zL ?_) | (with_reducible refine zQ ?_) | (with_reducible refine zO ?_) | (with_reducible refine zR ?_) | (with_reducible refine zP rfl ?_) | (with_reducible refine zM ?_) | (with_reducible refine zu ?_) | (with_reducible refine zn ?_) | (with_reducible refine zK ?_) | (with_reducible refine zA ?_)
  | refine zb rfl ?_ | refine za rfl ?_ | refine zw rfl (by assumption) ?_ | refine zr rfl (by assumption) ?_ | refine zz rfl (fun _ => ?_) (fun _ => ?_) | refine zq rfl (fun _ => ?_) (fun _ => ?_)
  | (refine zg ?_; refine WE ?_))
 exact aret_a [] _ rfl (KK (t := 269) rfl) rfl (Cells.box rfl) (by first | (simp; done) | exact Nat.le_refl 5) (by (try simp only [nm, putL, Nat.reduceAdd, cellsOf, cvOf]) <;> rfl) (by decide) (ZNK rfl) (fun _ => C0 rfl) (fun _ => .nil) ⟨by simp [usA, uP, uJ, uS, uU, uM, h7, h1, h2, h5, h6], rfl⟩
def ntF (x : Nt) : Int :=
 if keyB x.st = false then 5
 else if outB x.no 1 1000000 = true ∨ moB x.at_ = false then 1
 else if outB x.kd 1 7 = true then 4
 else if (uP x.kd = true ∧ keyB x.pr = false) ∨ (uJ x.kd = true ∧ keyB x.jb = false) ∨ (uS x.kd = true ∧ keyB x.sp = false) ∨ (uU x.kd = true ∧ keyB x.of_ = false) then 5
 else if (0 < uM x.kd ∧ outB x.n 1 (uM x.kd) = true) ∨ (uU x.kd = true ∧ outB x.ot 1 1000000 = true) then 1
 else if (uP x.kd = false ∧ ¬ x.pr = []) ∨ (uJ x.kd = false ∧ ¬ x.jb = []) ∨ (uS x.kd = false ∧ ¬ x.sp = []) ∨ (uM x.kd = 0 ∧ ¬ x.n = 0) ∨ (uU x.kd = false ∧ (¬ x.of_ = [] ∨ ¬ x.ot = 0)) then 3
 else 0
theorem usA_1 : usA 1 = .a [.c (B true), .c (B true), .c (B false), .c (B false), .c (I 1000)] := rfl
theorem usA_2 : usA 2 = .a [.c (B true), .c (B false), .c (B false), .c (B false), .c (I 1000)] := rfl
theorem usA_3 : usA 3 = .a [.c (B true), .c (B false), .c (B false), .c (B false), .c (I 0)] := rfl
theorem usA_4 : usA 4 = .a [.c (B true), .c (B false), .c (B false), .c (B false), .c (I 0)] := rfl
theorem usA_5 : usA 5 = .a [.c (B true), .c (B false), .c (B true), .c (B false), .c (I 100000000)] := rfl
theorem usA_6 : usA 6 = .a [.c (B true), .c (B false), .c (B false), .c (B false), .c (I 100000000)] := rfl
theorem usA_7 : usA 7 = .a [.c (B false), .c (B false), .c (B false), .c (B true), .c (I 0)] := rfl
set_option maxHeartbeats 4000000 in
theorem formed_v (x : Nt) (hx : NtS x) : ACalls Tryz.prog 133 [noA x] [] fun u H => u = .c (I (ntF x)) ∧ H = [] := by
 obtain ⟨st, no, at_, kn, pr, jb, sp, n, of_, ot⟩ := x
 obtain ⟨b1, b2, b3, b4, b5⟩ := hx
 simp only at b1 b2 b3 b4 b5
 show ACalls _ _ [.a [.c (T st), .c (I no), .c (I at_), .c (I kn), .c (T pr), .c (T jb), .c (T sp), .c (I n), .c (T of_), .c (I ot)]] [] _
 obtain ⟨ks0, hks0⟩ : ∃ q, keyB st = q := ⟨_, rfl⟩
 obtain ⟨no1, hno⟩ : ∃ q, outB no 1 1000000 = q := ⟨_, rfl⟩
 obtain ⟨at1, hat⟩ : ∃ q, moB at_ = q := ⟨_, rfl⟩
 obtain ⟨kd1, hkd⟩ : ∃ q, outB kn 1 7 = q := ⟨_, rfl⟩
 obtain ⟨kp, hkp⟩ : ∃ q, keyB pr = q := ⟨_, rfl⟩
 obtain ⟨kj, hkj⟩ : ∃ q, keyB jb = q := ⟨_, rfl⟩
 obtain ⟨ks, hks⟩ : ∃ q, keyB sp = q := ⟨_, rfl⟩
 obtain ⟨ko, hko⟩ : ∃ q, keyB of_ = q := ⟨_, rfl⟩
 obtain ⟨oo, hoo⟩ : ∃ q, outB ot 1 1000000 = q := ⟨_, rfl⟩
 obtain ⟨np, hnp⟩ : ∃ q, decide (pr ≠ []) = q := ⟨_, rfl⟩
 obtain ⟨nj, hnj⟩ : ∃ q, decide (jb ≠ []) = q := ⟨_, rfl⟩
 obtain ⟨ns, hns⟩ : ∃ q, decide (sp ≠ []) = q := ⟨_, rfl⟩
 obtain ⟨nf, hnf⟩ : ∃ q, decide (of_ ≠ []) = q := ⟨_, rfl⟩
 refine zi (N := 139) Tryz.func133 rfl rfl (by simp) fun E hE => ?_
 refine WA ?_
 refine WR ?_
 refine zf rfl (zc false (fun _ => zk _ (by omega)) rfl .fn rfl (by decide) (by kernel_rfl) rfl (fun _ => C0 rfl) (by simp)) ?_
 rintro _ _ ⟨_, _, _, ⟨rfl, rfl⟩, hF, hH⟩
 rw [hks0] at hF
 (refine NST hF hH ?_; clear hF hH; rintro rfl rfl)
 refine WE ?_
 cases ks0
 ·refine zb rfl ?_
  refine ZZ ?_
  refine WA ?_
  exact ze [] _ rfl rfl rfl (by decide) (ZNK rfl) (fun _ => .nil) ⟨congrArg (fun z => AV.c (I z)) (by simp [ntF, hks0]), rfl⟩
 refine za rfl ?_
 refine ZZ ?_
 cases no1
 rotate_left
 ·refine WR ?_
  refine zf rfl (zc false (fun _ => zE1 _ _ _) rfl .fn rfl (by decide) (by kernel_rfl) rfl (fun _ => C0 rfl) (by simp)) ?_
  rintro _ _ ⟨_, _, _, ⟨rfl, rfl⟩, hF, hH⟩
  rw [hno] at hF
  (refine NST hF hH ?_; clear hF hH; rintro rfl rfl)
  refine WO ?_
  first | refine ZS ?_ | (refine G1 rfl ?_; refine zf rfl (zc false (fun _ => za3 _) rfl .fn rfl (by decide) (by kernel_rfl) rfl (fun _ => C0 rfl) (by simp)) ?_; rintro _ _ ⟨_, _, _, ⟨rfl, rfl⟩, hF, hH⟩; rw [hat] at hF; (refine NST hF hH ?_; clear hF hH; rintro rfl rfl)) | skip
  refine WE ?_
  refine zb rfl ?_
  refine ZZ ?_
  refine WA ?_
  exact ze [] _ rfl rfl rfl (by decide) (ZNK rfl) (fun _ => .nil) ⟨congrArg (fun z => AV.c (I z)) (by simp [ntF, hks0, hno]), rfl⟩
 cases at1
 ·refine WR ?_
  refine zf rfl (zc false (fun _ => zE1 _ _ _) rfl .fn rfl (by decide) (by kernel_rfl) rfl (fun _ => C0 rfl) (by simp)) ?_
  rintro _ _ ⟨_, _, _, ⟨rfl, rfl⟩, hF, hH⟩
  rw [hno] at hF
  (refine NST hF hH ?_; clear hF hH; rintro rfl rfl)
  refine WO ?_
  first | refine ZS ?_ | (refine G1 rfl ?_; refine zf rfl (zc false (fun _ => za3 _) rfl .fn rfl (by decide) (by kernel_rfl) rfl (fun _ => C0 rfl) (by simp)) ?_; rintro _ _ ⟨_, _, _, ⟨rfl, rfl⟩, hF, hH⟩; rw [hat] at hF; (refine NST hF hH ?_; clear hF hH; rintro rfl rfl)) | skip
  refine WE ?_
  refine zb rfl ?_
  refine ZZ ?_
  refine WA ?_
  exact ze [] _ rfl rfl rfl (by decide) (ZNK rfl) (fun _ => .nil) ⟨congrArg (fun z => AV.c (I z)) (by simp [ntF, hks0, hno, hat]), rfl⟩
 refine WR ?_
 refine zf rfl (zc false (fun _ => zE1 _ _ _) rfl .fn rfl (by decide) (by kernel_rfl) rfl (fun _ => C0 rfl) (by simp)) ?_
 rintro _ _ ⟨_, _, _, ⟨rfl, rfl⟩, hF, hH⟩
 rw [hno] at hF
 (refine NST hF hH ?_; clear hF hH; rintro rfl rfl)
 refine WO ?_
 first | refine ZS ?_ | (refine G1 rfl ?_; refine zf rfl (zc false (fun _ => za3 _) rfl .fn rfl (by decide) (by kernel_rfl) rfl (fun _ => C0 rfl) (by simp)) ?_; rintro _ _ ⟨_, _, _, ⟨rfl, rfl⟩, hF, hH⟩; rw [hat] at hF; (refine NST hF hH ?_; clear hF hH; rintro rfl rfl)) | skip
 refine WE ?_
 refine za rfl ?_
 refine ZZ ?_
 refine WR ?_
 refine zf rfl (zc false (fun _ => zE1 _ _ _) rfl .fn rfl (by decide) (by kernel_rfl) rfl (fun _ => C0 rfl) (by simp)) ?_
 rintro _ _ ⟨_, _, _, ⟨rfl, rfl⟩, hF, hH⟩
 rw [hkd] at hF
 (refine NST hF hH ?_; clear hF hH; rintro rfl rfl)
 refine WE ?_
 cases kd1
 rotate_left
 ·refine zb rfl ?_
  refine ZZ ?_
  refine WA ?_
  exact ze [] _ rfl rfl rfl (by decide) (ZNK rfl) (fun _ => .nil) ⟨congrArg (fun z => AV.c (I z)) (by simp [ntF, hks0, hno, hat, hkd]), rfl⟩
 refine za rfl ?_
 refine ZZ ?_
 have hk7 : kn = 1 ∨ kn = 2 ∨ kn = 3 ∨ kn = 4 ∨ kn = 5 ∨ kn = 6 ∨ kn = 7 := by
  unfold outB at hkd
  simp at hkd
  omega
 rcases hk7 with rfl | rfl | rfl | rfl | rfl | rfl | rfl
 ·-- kind 1
  obtain ⟨on, hon⟩ : ∃ q, outB n 1 1000 = q := ⟨_, rfl⟩
  refine WR ?_
  refine zf rfl (zc false (fun _ => zE2 1) rfl .fn rfl (by decide) (by kernel_rfl) rfl (fun _ => C0 rfl) (by simp)) ?_
  rintro _ _ ⟨_, _, _, ⟨rfl, rfl⟩, hF, hH⟩
  rw [usA_1] at hF
  (refine NST hF hH ?_; clear hF hH; rintro rfl rfl)
  refine WE ?_
  cases kp
  ·refine WR ?_
   first | refine ZS ?_ | (refine G1 rfl ?_; refine zf rfl (zc false (fun _ => zk _ (by omega)) rfl .fn rfl (by decide) (by kernel_rfl) rfl (fun _ => C0 rfl) (by simp)) ?_; rintro _ _ ⟨_, _, _, ⟨rfl, rfl⟩, hF, hH⟩; rw [hkp] at hF; (refine NST hF hH ?_; clear hF hH; rintro rfl rfl)) | skip
   refine WO ?_
   first | refine ZS ?_ | (refine G1 rfl ?_; refine zf rfl (zc false (fun _ => zk _ (by omega)) rfl .fn rfl (by decide) (by kernel_rfl) rfl (fun _ => C0 rfl) (by simp)) ?_; rintro _ _ ⟨_, _, _, ⟨rfl, rfl⟩, hF, hH⟩; rw [hkj] at hF; (refine NST hF hH ?_; clear hF hH; rintro rfl rfl)) | skip
   refine WO ?_
   first | refine ZS ?_ | (refine G1 rfl ?_; refine zf rfl (zc false (fun _ => zk _ (by omega)) rfl .fn rfl (by decide) (by kernel_rfl) rfl (fun _ => C0 rfl) (by simp)) ?_; rintro _ _ ⟨_, _, _, ⟨rfl, rfl⟩, hF, hH⟩; rw [hks] at hF; (refine NST hF hH ?_; clear hF hH; rintro rfl rfl)) | skip
   refine WO ?_
   first | refine ZS ?_ | (refine G1 rfl ?_; refine zf rfl (zc false (fun _ => zk _ (by omega)) rfl .fn rfl (by decide) (by kernel_rfl) rfl (fun _ => C0 rfl) (by simp)) ?_; rintro _ _ ⟨_, _, _, ⟨rfl, rfl⟩, hF, hH⟩; rw [hko] at hF; (refine NST hF hH ?_; clear hF hH; rintro rfl rfl)) | skip
   refine WE ?_
   refine zb rfl ?_
   refine ZZ ?_
   refine WA ?_
   exact ze [] _ rfl rfl rfl (by decide) (ZNK rfl) (fun _ => .nil) ⟨congrArg (fun z => AV.c (I z)) (by simp [ntF, uP, uJ, uS, uU, uM, hks0, hno, hat, hkd, hkp]), rfl⟩
  cases kj
  ·refine WR ?_
   first | refine ZS ?_ | (refine G1 rfl ?_; refine zf rfl (zc false (fun _ => zk _ (by omega)) rfl .fn rfl (by decide) (by kernel_rfl) rfl (fun _ => C0 rfl) (by simp)) ?_; rintro _ _ ⟨_, _, _, ⟨rfl, rfl⟩, hF, hH⟩; rw [hkp] at hF; (refine NST hF hH ?_; clear hF hH; rintro rfl rfl)) | skip
   refine WO ?_
   first | refine ZS ?_ | (refine G1 rfl ?_; refine zf rfl (zc false (fun _ => zk _ (by omega)) rfl .fn rfl (by decide) (by kernel_rfl) rfl (fun _ => C0 rfl) (by simp)) ?_; rintro _ _ ⟨_, _, _, ⟨rfl, rfl⟩, hF, hH⟩; rw [hkj] at hF; (refine NST hF hH ?_; clear hF hH; rintro rfl rfl)) | skip
   refine WO ?_
   first | refine ZS ?_ | (refine G1 rfl ?_; refine zf rfl (zc false (fun _ => zk _ (by omega)) rfl .fn rfl (by decide) (by kernel_rfl) rfl (fun _ => C0 rfl) (by simp)) ?_; rintro _ _ ⟨_, _, _, ⟨rfl, rfl⟩, hF, hH⟩; rw [hks] at hF; (refine NST hF hH ?_; clear hF hH; rintro rfl rfl)) | skip
   refine WO ?_
   first | refine ZS ?_ | (refine G1 rfl ?_; refine zf rfl (zc false (fun _ => zk _ (by omega)) rfl .fn rfl (by decide) (by kernel_rfl) rfl (fun _ => C0 rfl) (by simp)) ?_; rintro _ _ ⟨_, _, _, ⟨rfl, rfl⟩, hF, hH⟩; rw [hko] at hF; (refine NST hF hH ?_; clear hF hH; rintro rfl rfl)) | skip
   refine WE ?_
   refine zb rfl ?_
   refine ZZ ?_
   refine WA ?_
   exact ze [] _ rfl rfl rfl (by decide) (ZNK rfl) (fun _ => .nil) ⟨congrArg (fun z => AV.c (I z)) (by simp [ntF, uP, uJ, uS, uU, uM, hks0, hno, hat, hkd, hkp, hkj]), rfl⟩
  refine WR ?_
  first | refine ZS ?_ | (refine G1 rfl ?_; refine zf rfl (zc false (fun _ => zk _ (by omega)) rfl .fn rfl (by decide) (by kernel_rfl) rfl (fun _ => C0 rfl) (by simp)) ?_; rintro _ _ ⟨_, _, _, ⟨rfl, rfl⟩, hF, hH⟩; rw [hkp] at hF; (refine NST hF hH ?_; clear hF hH; rintro rfl rfl)) | skip
  refine WO ?_
  first | refine ZS ?_ | (refine G1 rfl ?_; refine zf rfl (zc false (fun _ => zk _ (by omega)) rfl .fn rfl (by decide) (by kernel_rfl) rfl (fun _ => C0 rfl) (by simp)) ?_; rintro _ _ ⟨_, _, _, ⟨rfl, rfl⟩, hF, hH⟩; rw [hkj] at hF; (refine NST hF hH ?_; clear hF hH; rintro rfl rfl)) | skip
  refine WO ?_
  first | refine ZS ?_ | (refine G1 rfl ?_; refine zf rfl (zc false (fun _ => zk _ (by omega)) rfl .fn rfl (by decide) (by kernel_rfl) rfl (fun _ => C0 rfl) (by simp)) ?_; rintro _ _ ⟨_, _, _, ⟨rfl, rfl⟩, hF, hH⟩; rw [hks] at hF; (refine NST hF hH ?_; clear hF hH; rintro rfl rfl)) | skip
  refine WO ?_
  first | refine ZS ?_ | (refine G1 rfl ?_; refine zf rfl (zc false (fun _ => zk _ (by omega)) rfl .fn rfl (by decide) (by kernel_rfl) rfl (fun _ => C0 rfl) (by simp)) ?_; rintro _ _ ⟨_, _, _, ⟨rfl, rfl⟩, hF, hH⟩; rw [hko] at hF; (refine NST hF hH ?_; clear hF hH; rintro rfl rfl)) | skip
  refine WE ?_
  refine za rfl ?_
  refine ZZ ?_
  cases on
  rotate_left
  ·refine WR ?_
   first | refine ZS ?_ | (refine G1 rfl ?_; refine zf rfl (zc false (fun _ => zE1 _ _ _) rfl .fn rfl (by decide) (by kernel_rfl) rfl (fun _ => C0 rfl) (by simp)) ?_; rintro _ _ ⟨_, _, _, ⟨rfl, rfl⟩, hF, hH⟩; rw [hon] at hF; (refine NST hF hH ?_; clear hF hH; rintro rfl rfl)) | skip
   refine WO ?_
   first | refine ZS ?_ | (refine G1 rfl ?_; refine zf rfl (zc false (fun _ => zE1 _ _ _) rfl .fn rfl (by decide) (by kernel_rfl) rfl (fun _ => C0 rfl) (by simp)) ?_; rintro _ _ ⟨_, _, _, ⟨rfl, rfl⟩, hF, hH⟩; rw [hoo] at hF; (refine NST hF hH ?_; clear hF hH; rintro rfl rfl)) | skip
   refine WE ?_
   refine zb rfl ?_
   refine ZZ ?_
   refine WA ?_
   exact ze [] _ rfl rfl rfl (by decide) (ZNK rfl) (fun _ => .nil) ⟨congrArg (fun z => AV.c (I z)) (by simp [ntF, uP, uJ, uS, uU, uM, hks0, hno, hat, hkd, hkp, hkj, hon]), rfl⟩
  refine WR ?_
  first | refine ZS ?_ | (refine G1 rfl ?_; refine zf rfl (zc false (fun _ => zE1 _ _ _) rfl .fn rfl (by decide) (by kernel_rfl) rfl (fun _ => C0 rfl) (by simp)) ?_; rintro _ _ ⟨_, _, _, ⟨rfl, rfl⟩, hF, hH⟩; rw [hon] at hF; (refine NST hF hH ?_; clear hF hH; rintro rfl rfl)) | skip
  refine WO ?_
  first | refine ZS ?_ | (refine G1 rfl ?_; refine zf rfl (zc false (fun _ => zE1 _ _ _) rfl .fn rfl (by decide) (by kernel_rfl) rfl (fun _ => C0 rfl) (by simp)) ?_; rintro _ _ ⟨_, _, _, ⟨rfl, rfl⟩, hF, hH⟩; rw [hoo] at hF; (refine NST hF hH ?_; clear hF hH; rintro rfl rfl)) | skip
  refine WE ?_
  refine za rfl ?_
  refine ZZ ?_
  cases ns
  rotate_left
  ·have ehns : ¬ sp = [] := of_decide_eq_true hns
   refine ZR ?_
   iterate 6 refine WX1 ?_
   first | refine ZP (zd (b := []) hnp rfl Tryz.underlying9 rfl rfl) ?_ | refine ZS ?_
   iterate 8 refine WX1 ?_
   first | refine ZP (zd (b := []) hnj rfl Tryz.underlying9 rfl rfl) ?_ | refine ZS ?_
   iterate 9 refine WX1 ?_
   first | refine ZP (zd (b := []) hns rfl Tryz.underlying9 rfl rfl) ?_ | refine ZS ?_
   iterate 19 refine WX1 ?_
   first | refine ZP (zd (b := []) hnf rfl Tryz.underlying9 rfl rfl) ?_ | refine ZS ?_
   refine WE ?_
   refine zb rfl ?_
   refine ZZ ?_
   refine WA ?_
   exact ze [] _ rfl rfl rfl (by decide) (ZNK rfl) (fun _ => .nil) ⟨congrArg (fun z => AV.c (I z)) (by simp [ntF, uP, uJ, uS, uU, uM, hks0, hno, hat, hkd, hkp, hkj, hon, ehns]), rfl⟩
  have ehns : sp = [] := Decidable.not_not.1 (of_decide_eq_false hns)
  cases nf
  rotate_left
  ·have ehnf : ¬ of_ = [] := of_decide_eq_true hnf
   refine ZR ?_
   iterate 6 refine WX1 ?_
   first | refine ZP (zd (b := []) hnp rfl Tryz.underlying9 rfl rfl) ?_ | refine ZS ?_
   iterate 8 refine WX1 ?_
   first | refine ZP (zd (b := []) hnj rfl Tryz.underlying9 rfl rfl) ?_ | refine ZS ?_
   iterate 9 refine WX1 ?_
   first | refine ZP (zd (b := []) hns rfl Tryz.underlying9 rfl rfl) ?_ | refine ZS ?_
   iterate 19 refine WX1 ?_
   first | refine ZP (zd (b := []) hnf rfl Tryz.underlying9 rfl rfl) ?_ | refine ZS ?_
   refine WE ?_
   refine zb rfl ?_
   refine ZZ ?_
   refine WA ?_
   exact ze [] _ rfl rfl rfl (by decide) (ZNK rfl) (fun _ => .nil) ⟨congrArg (fun z => AV.c (I z)) (by simp [ntF, uP, uJ, uS, uU, uM, hks0, hno, hat, hkd, hkp, hkj, hon, ehns, ehnf]), rfl⟩
  have ehnf : of_ = [] := Decidable.not_not.1 (of_decide_eq_false hnf)
  by_cases hot : ot = 0
  rotate_left
  ·refine ZR ?_
   iterate 6 refine WX1 ?_
   first | refine ZP (zd (b := []) hnp rfl Tryz.underlying9 rfl rfl) ?_ | refine ZS ?_
   iterate 8 refine WX1 ?_
   first | refine ZP (zd (b := []) hnj rfl Tryz.underlying9 rfl rfl) ?_ | refine ZS ?_
   iterate 9 refine WX1 ?_
   first | refine ZP (zd (b := []) hns rfl Tryz.underlying9 rfl rfl) ?_ | refine ZS ?_
   iterate 19 refine WX1 ?_
   first | refine ZP (zd (b := []) hnf rfl Tryz.underlying9 rfl rfl) ?_ | refine ZS ?_
   refine WE ?_
   refine zb rfl ?_
   refine ZZ ?_
   refine WA ?_
   exact ze [] _ rfl rfl rfl (by decide) (ZNK rfl) (fun _ => .nil) ⟨congrArg (fun z => AV.c (I z)) (by simp [ntF, uP, uJ, uS, uU, uM, hks0, hno, hat, hkd, hkp, hkj, hon, ehns, ehnf, hot]), rfl⟩
  refine ZR ?_
  iterate 6 refine WX1 ?_
  first | refine ZP (zd (b := []) hnp rfl Tryz.underlying9 rfl rfl) ?_ | refine ZS ?_
  iterate 8 refine WX1 ?_
  first | refine ZP (zd (b := []) hnj rfl Tryz.underlying9 rfl rfl) ?_ | refine ZS ?_
  iterate 9 refine WX1 ?_
  first | refine ZP (zd (b := []) hns rfl Tryz.underlying9 rfl rfl) ?_ | refine ZS ?_
  iterate 19 refine WX1 ?_
  first | refine ZP (zd (b := []) hnf rfl Tryz.underlying9 rfl rfl) ?_ | refine ZS ?_
  refine WE ?_
  refine za rfl ?_
  refine ZZ ?_
  refine WA ?_
  exact ze [] _ rfl rfl rfl (by decide) (ZNK rfl) (fun _ => .nil) ⟨congrArg (fun z => AV.c (I z)) (by simp [ntF, uP, uJ, uS, uU, uM, hks0, hno, hat, hkd, hkp, hkj, hon, ehns, ehnf, hot]), rfl⟩
 ·-- kind 2
  obtain ⟨on, hon⟩ : ∃ q, outB n 1 1000 = q := ⟨_, rfl⟩
  refine WR ?_
  refine zf rfl (zc false (fun _ => zE2 2) rfl .fn rfl (by decide) (by kernel_rfl) rfl (fun _ => C0 rfl) (by simp)) ?_
  rintro _ _ ⟨_, _, _, ⟨rfl, rfl⟩, hF, hH⟩
  rw [usA_2] at hF
  (refine NST hF hH ?_; clear hF hH; rintro rfl rfl)
  refine WE ?_
  cases kp
  ·refine WR ?_
   first | refine ZS ?_ | (refine G1 rfl ?_; refine zf rfl (zc false (fun _ => zk _ (by omega)) rfl .fn rfl (by decide) (by kernel_rfl) rfl (fun _ => C0 rfl) (by simp)) ?_; rintro _ _ ⟨_, _, _, ⟨rfl, rfl⟩, hF, hH⟩; rw [hkp] at hF; (refine NST hF hH ?_; clear hF hH; rintro rfl rfl)) | skip
   refine WO ?_
   first | refine ZS ?_ | (refine G1 rfl ?_; refine zf rfl (zc false (fun _ => zk _ (by omega)) rfl .fn rfl (by decide) (by kernel_rfl) rfl (fun _ => C0 rfl) (by simp)) ?_; rintro _ _ ⟨_, _, _, ⟨rfl, rfl⟩, hF, hH⟩; rw [hkj] at hF; (refine NST hF hH ?_; clear hF hH; rintro rfl rfl)) | skip
   refine WO ?_
   first | refine ZS ?_ | (refine G1 rfl ?_; refine zf rfl (zc false (fun _ => zk _ (by omega)) rfl .fn rfl (by decide) (by kernel_rfl) rfl (fun _ => C0 rfl) (by simp)) ?_; rintro _ _ ⟨_, _, _, ⟨rfl, rfl⟩, hF, hH⟩; rw [hks] at hF; (refine NST hF hH ?_; clear hF hH; rintro rfl rfl)) | skip
   refine WO ?_
   first | refine ZS ?_ | (refine G1 rfl ?_; refine zf rfl (zc false (fun _ => zk _ (by omega)) rfl .fn rfl (by decide) (by kernel_rfl) rfl (fun _ => C0 rfl) (by simp)) ?_; rintro _ _ ⟨_, _, _, ⟨rfl, rfl⟩, hF, hH⟩; rw [hko] at hF; (refine NST hF hH ?_; clear hF hH; rintro rfl rfl)) | skip
   refine WE ?_
   refine zb rfl ?_
   refine ZZ ?_
   refine WA ?_
   exact ze [] _ rfl rfl rfl (by decide) (ZNK rfl) (fun _ => .nil) ⟨congrArg (fun z => AV.c (I z)) (by simp [ntF, uP, uJ, uS, uU, uM, hks0, hno, hat, hkd, hkp]), rfl⟩
  refine WR ?_
  first | refine ZS ?_ | (refine G1 rfl ?_; refine zf rfl (zc false (fun _ => zk _ (by omega)) rfl .fn rfl (by decide) (by kernel_rfl) rfl (fun _ => C0 rfl) (by simp)) ?_; rintro _ _ ⟨_, _, _, ⟨rfl, rfl⟩, hF, hH⟩; rw [hkp] at hF; (refine NST hF hH ?_; clear hF hH; rintro rfl rfl)) | skip
  refine WO ?_
  first | refine ZS ?_ | (refine G1 rfl ?_; refine zf rfl (zc false (fun _ => zk _ (by omega)) rfl .fn rfl (by decide) (by kernel_rfl) rfl (fun _ => C0 rfl) (by simp)) ?_; rintro _ _ ⟨_, _, _, ⟨rfl, rfl⟩, hF, hH⟩; rw [hkj] at hF; (refine NST hF hH ?_; clear hF hH; rintro rfl rfl)) | skip
  refine WO ?_
  first | refine ZS ?_ | (refine G1 rfl ?_; refine zf rfl (zc false (fun _ => zk _ (by omega)) rfl .fn rfl (by decide) (by kernel_rfl) rfl (fun _ => C0 rfl) (by simp)) ?_; rintro _ _ ⟨_, _, _, ⟨rfl, rfl⟩, hF, hH⟩; rw [hks] at hF; (refine NST hF hH ?_; clear hF hH; rintro rfl rfl)) | skip
  refine WO ?_
  first | refine ZS ?_ | (refine G1 rfl ?_; refine zf rfl (zc false (fun _ => zk _ (by omega)) rfl .fn rfl (by decide) (by kernel_rfl) rfl (fun _ => C0 rfl) (by simp)) ?_; rintro _ _ ⟨_, _, _, ⟨rfl, rfl⟩, hF, hH⟩; rw [hko] at hF; (refine NST hF hH ?_; clear hF hH; rintro rfl rfl)) | skip
  refine WE ?_
  refine za rfl ?_
  refine ZZ ?_
  cases on
  rotate_left
  ·refine WR ?_
   first | refine ZS ?_ | (refine G1 rfl ?_; refine zf rfl (zc false (fun _ => zE1 _ _ _) rfl .fn rfl (by decide) (by kernel_rfl) rfl (fun _ => C0 rfl) (by simp)) ?_; rintro _ _ ⟨_, _, _, ⟨rfl, rfl⟩, hF, hH⟩; rw [hon] at hF; (refine NST hF hH ?_; clear hF hH; rintro rfl rfl)) | skip
   refine WO ?_
   first | refine ZS ?_ | (refine G1 rfl ?_; refine zf rfl (zc false (fun _ => zE1 _ _ _) rfl .fn rfl (by decide) (by kernel_rfl) rfl (fun _ => C0 rfl) (by simp)) ?_; rintro _ _ ⟨_, _, _, ⟨rfl, rfl⟩, hF, hH⟩; rw [hoo] at hF; (refine NST hF hH ?_; clear hF hH; rintro rfl rfl)) | skip
   refine WE ?_
   refine zb rfl ?_
   refine ZZ ?_
   refine WA ?_
   exact ze [] _ rfl rfl rfl (by decide) (ZNK rfl) (fun _ => .nil) ⟨congrArg (fun z => AV.c (I z)) (by simp [ntF, uP, uJ, uS, uU, uM, hks0, hno, hat, hkd, hkp, hon]), rfl⟩
  refine WR ?_
  first | refine ZS ?_ | (refine G1 rfl ?_; refine zf rfl (zc false (fun _ => zE1 _ _ _) rfl .fn rfl (by decide) (by kernel_rfl) rfl (fun _ => C0 rfl) (by simp)) ?_; rintro _ _ ⟨_, _, _, ⟨rfl, rfl⟩, hF, hH⟩; rw [hon] at hF; (refine NST hF hH ?_; clear hF hH; rintro rfl rfl)) | skip
  refine WO ?_
  first | refine ZS ?_ | (refine G1 rfl ?_; refine zf rfl (zc false (fun _ => zE1 _ _ _) rfl .fn rfl (by decide) (by kernel_rfl) rfl (fun _ => C0 rfl) (by simp)) ?_; rintro _ _ ⟨_, _, _, ⟨rfl, rfl⟩, hF, hH⟩; rw [hoo] at hF; (refine NST hF hH ?_; clear hF hH; rintro rfl rfl)) | skip
  refine WE ?_
  refine za rfl ?_
  refine ZZ ?_
  cases nj
  rotate_left
  ·have ehnj : ¬ jb = [] := of_decide_eq_true hnj
   refine ZR ?_
   iterate 6 refine WX1 ?_
   first | refine ZP (zd (b := []) hnp rfl Tryz.underlying9 rfl rfl) ?_ | refine ZS ?_
   iterate 8 refine WX1 ?_
   first | refine ZP (zd (b := []) hnj rfl Tryz.underlying9 rfl rfl) ?_ | refine ZS ?_
   iterate 9 refine WX1 ?_
   first | refine ZP (zd (b := []) hns rfl Tryz.underlying9 rfl rfl) ?_ | refine ZS ?_
   iterate 19 refine WX1 ?_
   first | refine ZP (zd (b := []) hnf rfl Tryz.underlying9 rfl rfl) ?_ | refine ZS ?_
   refine WE ?_
   refine zb rfl ?_
   refine ZZ ?_
   refine WA ?_
   exact ze [] _ rfl rfl rfl (by decide) (ZNK rfl) (fun _ => .nil) ⟨congrArg (fun z => AV.c (I z)) (by simp [ntF, uP, uJ, uS, uU, uM, hks0, hno, hat, hkd, hkp, hon, ehnj]), rfl⟩
  have ehnj : jb = [] := Decidable.not_not.1 (of_decide_eq_false hnj)
  cases ns
  rotate_left
  ·have ehns : ¬ sp = [] := of_decide_eq_true hns
   refine ZR ?_
   iterate 6 refine WX1 ?_
   first | refine ZP (zd (b := []) hnp rfl Tryz.underlying9 rfl rfl) ?_ | refine ZS ?_
   iterate 8 refine WX1 ?_
   first | refine ZP (zd (b := []) hnj rfl Tryz.underlying9 rfl rfl) ?_ | refine ZS ?_
   iterate 9 refine WX1 ?_
   first | refine ZP (zd (b := []) hns rfl Tryz.underlying9 rfl rfl) ?_ | refine ZS ?_
   iterate 19 refine WX1 ?_
   first | refine ZP (zd (b := []) hnf rfl Tryz.underlying9 rfl rfl) ?_ | refine ZS ?_
   refine WE ?_
   refine zb rfl ?_
   refine ZZ ?_
   refine WA ?_
   exact ze [] _ rfl rfl rfl (by decide) (ZNK rfl) (fun _ => .nil) ⟨congrArg (fun z => AV.c (I z)) (by simp [ntF, uP, uJ, uS, uU, uM, hks0, hno, hat, hkd, hkp, hon, ehnj, ehns]), rfl⟩
  have ehns : sp = [] := Decidable.not_not.1 (of_decide_eq_false hns)
  cases nf
  rotate_left
  ·have ehnf : ¬ of_ = [] := of_decide_eq_true hnf
   refine ZR ?_
   iterate 6 refine WX1 ?_
   first | refine ZP (zd (b := []) hnp rfl Tryz.underlying9 rfl rfl) ?_ | refine ZS ?_
   iterate 8 refine WX1 ?_
   first | refine ZP (zd (b := []) hnj rfl Tryz.underlying9 rfl rfl) ?_ | refine ZS ?_
   iterate 9 refine WX1 ?_
   first | refine ZP (zd (b := []) hns rfl Tryz.underlying9 rfl rfl) ?_ | refine ZS ?_
   iterate 19 refine WX1 ?_
   first | refine ZP (zd (b := []) hnf rfl Tryz.underlying9 rfl rfl) ?_ | refine ZS ?_
   refine WE ?_
   refine zb rfl ?_
   refine ZZ ?_
   refine WA ?_
   exact ze [] _ rfl rfl rfl (by decide) (ZNK rfl) (fun _ => .nil) ⟨congrArg (fun z => AV.c (I z)) (by simp [ntF, uP, uJ, uS, uU, uM, hks0, hno, hat, hkd, hkp, hon, ehnj, ehns, ehnf]), rfl⟩
  have ehnf : of_ = [] := Decidable.not_not.1 (of_decide_eq_false hnf)
  by_cases hot : ot = 0
  rotate_left
  ·refine ZR ?_
   iterate 6 refine WX1 ?_
   first | refine ZP (zd (b := []) hnp rfl Tryz.underlying9 rfl rfl) ?_ | refine ZS ?_
   iterate 8 refine WX1 ?_
   first | refine ZP (zd (b := []) hnj rfl Tryz.underlying9 rfl rfl) ?_ | refine ZS ?_
   iterate 9 refine WX1 ?_
   first | refine ZP (zd (b := []) hns rfl Tryz.underlying9 rfl rfl) ?_ | refine ZS ?_
   iterate 19 refine WX1 ?_
   first | refine ZP (zd (b := []) hnf rfl Tryz.underlying9 rfl rfl) ?_ | refine ZS ?_
   refine WE ?_
   refine zb rfl ?_
   refine ZZ ?_
   refine WA ?_
   exact ze [] _ rfl rfl rfl (by decide) (ZNK rfl) (fun _ => .nil) ⟨congrArg (fun z => AV.c (I z)) (by simp [ntF, uP, uJ, uS, uU, uM, hks0, hno, hat, hkd, hkp, hon, ehnj, ehns, ehnf, hot]), rfl⟩
  refine ZR ?_
  iterate 6 refine WX1 ?_
  first | refine ZP (zd (b := []) hnp rfl Tryz.underlying9 rfl rfl) ?_ | refine ZS ?_
  iterate 8 refine WX1 ?_
  first | refine ZP (zd (b := []) hnj rfl Tryz.underlying9 rfl rfl) ?_ | refine ZS ?_
  iterate 9 refine WX1 ?_
  first | refine ZP (zd (b := []) hns rfl Tryz.underlying9 rfl rfl) ?_ | refine ZS ?_
  iterate 19 refine WX1 ?_
  first | refine ZP (zd (b := []) hnf rfl Tryz.underlying9 rfl rfl) ?_ | refine ZS ?_
  refine WE ?_
  refine za rfl ?_
  refine ZZ ?_
  refine WA ?_
  exact ze [] _ rfl rfl rfl (by decide) (ZNK rfl) (fun _ => .nil) ⟨congrArg (fun z => AV.c (I z)) (by simp [ntF, uP, uJ, uS, uU, uM, hks0, hno, hat, hkd, hkp, hon, ehnj, ehns, ehnf, hot]), rfl⟩
 ·-- kind 3
  obtain ⟨on, hon⟩ : ∃ q, outB n 1 1 = q := ⟨_, rfl⟩
  refine WR ?_
  refine zf rfl (zc false (fun _ => zE2 3) rfl .fn rfl (by decide) (by kernel_rfl) rfl (fun _ => C0 rfl) (by simp)) ?_
  rintro _ _ ⟨_, _, _, ⟨rfl, rfl⟩, hF, hH⟩
  rw [usA_3] at hF
  (refine NST hF hH ?_; clear hF hH; rintro rfl rfl)
  refine WE ?_
  cases kp
  ·refine WR ?_
   first | refine ZS ?_ | (refine G1 rfl ?_; refine zf rfl (zc false (fun _ => zk _ (by omega)) rfl .fn rfl (by decide) (by kernel_rfl) rfl (fun _ => C0 rfl) (by simp)) ?_; rintro _ _ ⟨_, _, _, ⟨rfl, rfl⟩, hF, hH⟩; rw [hkp] at hF; (refine NST hF hH ?_; clear hF hH; rintro rfl rfl)) | skip
   refine WO ?_
   first | refine ZS ?_ | (refine G1 rfl ?_; refine zf rfl (zc false (fun _ => zk _ (by omega)) rfl .fn rfl (by decide) (by kernel_rfl) rfl (fun _ => C0 rfl) (by simp)) ?_; rintro _ _ ⟨_, _, _, ⟨rfl, rfl⟩, hF, hH⟩; rw [hkj] at hF; (refine NST hF hH ?_; clear hF hH; rintro rfl rfl)) | skip
   refine WO ?_
   first | refine ZS ?_ | (refine G1 rfl ?_; refine zf rfl (zc false (fun _ => zk _ (by omega)) rfl .fn rfl (by decide) (by kernel_rfl) rfl (fun _ => C0 rfl) (by simp)) ?_; rintro _ _ ⟨_, _, _, ⟨rfl, rfl⟩, hF, hH⟩; rw [hks] at hF; (refine NST hF hH ?_; clear hF hH; rintro rfl rfl)) | skip
   refine WO ?_
   first | refine ZS ?_ | (refine G1 rfl ?_; refine zf rfl (zc false (fun _ => zk _ (by omega)) rfl .fn rfl (by decide) (by kernel_rfl) rfl (fun _ => C0 rfl) (by simp)) ?_; rintro _ _ ⟨_, _, _, ⟨rfl, rfl⟩, hF, hH⟩; rw [hko] at hF; (refine NST hF hH ?_; clear hF hH; rintro rfl rfl)) | skip
   refine WE ?_
   refine zb rfl ?_
   refine ZZ ?_
   refine WA ?_
   exact ze [] _ rfl rfl rfl (by decide) (ZNK rfl) (fun _ => .nil) ⟨congrArg (fun z => AV.c (I z)) (by simp [ntF, uP, uJ, uS, uU, uM, hks0, hno, hat, hkd, hkp]), rfl⟩
  refine WR ?_
  first | refine ZS ?_ | (refine G1 rfl ?_; refine zf rfl (zc false (fun _ => zk _ (by omega)) rfl .fn rfl (by decide) (by kernel_rfl) rfl (fun _ => C0 rfl) (by simp)) ?_; rintro _ _ ⟨_, _, _, ⟨rfl, rfl⟩, hF, hH⟩; rw [hkp] at hF; (refine NST hF hH ?_; clear hF hH; rintro rfl rfl)) | skip
  refine WO ?_
  first | refine ZS ?_ | (refine G1 rfl ?_; refine zf rfl (zc false (fun _ => zk _ (by omega)) rfl .fn rfl (by decide) (by kernel_rfl) rfl (fun _ => C0 rfl) (by simp)) ?_; rintro _ _ ⟨_, _, _, ⟨rfl, rfl⟩, hF, hH⟩; rw [hkj] at hF; (refine NST hF hH ?_; clear hF hH; rintro rfl rfl)) | skip
  refine WO ?_
  first | refine ZS ?_ | (refine G1 rfl ?_; refine zf rfl (zc false (fun _ => zk _ (by omega)) rfl .fn rfl (by decide) (by kernel_rfl) rfl (fun _ => C0 rfl) (by simp)) ?_; rintro _ _ ⟨_, _, _, ⟨rfl, rfl⟩, hF, hH⟩; rw [hks] at hF; (refine NST hF hH ?_; clear hF hH; rintro rfl rfl)) | skip
  refine WO ?_
  first | refine ZS ?_ | (refine G1 rfl ?_; refine zf rfl (zc false (fun _ => zk _ (by omega)) rfl .fn rfl (by decide) (by kernel_rfl) rfl (fun _ => C0 rfl) (by simp)) ?_; rintro _ _ ⟨_, _, _, ⟨rfl, rfl⟩, hF, hH⟩; rw [hko] at hF; (refine NST hF hH ?_; clear hF hH; rintro rfl rfl)) | skip
  refine WE ?_
  refine za rfl ?_
  refine ZZ ?_
  refine WR ?_
  first | refine ZS ?_ | (refine G1 rfl ?_; refine zf rfl (zc false (fun _ => zE1 _ _ _) rfl .fn rfl (by decide) (by kernel_rfl) rfl (fun _ => C0 rfl) (by simp)) ?_; rintro _ _ ⟨_, _, _, ⟨rfl, rfl⟩, hF, hH⟩; rw [hon] at hF; (refine NST hF hH ?_; clear hF hH; rintro rfl rfl)) | skip
  refine WO ?_
  first | refine ZS ?_ | (refine G1 rfl ?_; refine zf rfl (zc false (fun _ => zE1 _ _ _) rfl .fn rfl (by decide) (by kernel_rfl) rfl (fun _ => C0 rfl) (by simp)) ?_; rintro _ _ ⟨_, _, _, ⟨rfl, rfl⟩, hF, hH⟩; rw [hoo] at hF; (refine NST hF hH ?_; clear hF hH; rintro rfl rfl)) | skip
  refine WE ?_
  refine za rfl ?_
  refine ZZ ?_
  cases nj
  rotate_left
  ·have ehnj : ¬ jb = [] := of_decide_eq_true hnj
   refine ZR ?_
   iterate 6 refine WX1 ?_
   first | refine ZP (zd (b := []) hnp rfl Tryz.underlying9 rfl rfl) ?_ | refine ZS ?_
   iterate 8 refine WX1 ?_
   first | refine ZP (zd (b := []) hnj rfl Tryz.underlying9 rfl rfl) ?_ | refine ZS ?_
   iterate 9 refine WX1 ?_
   first | refine ZP (zd (b := []) hns rfl Tryz.underlying9 rfl rfl) ?_ | refine ZS ?_
   iterate 19 refine WX1 ?_
   first | refine ZP (zd (b := []) hnf rfl Tryz.underlying9 rfl rfl) ?_ | refine ZS ?_
   refine WE ?_
   refine zb rfl ?_
   refine ZZ ?_
   refine WA ?_
   exact ze [] _ rfl rfl rfl (by decide) (ZNK rfl) (fun _ => .nil) ⟨congrArg (fun z => AV.c (I z)) (by simp [ntF, uP, uJ, uS, uU, uM, hks0, hno, hat, hkd, hkp, ehnj]), rfl⟩
  have ehnj : jb = [] := Decidable.not_not.1 (of_decide_eq_false hnj)
  cases ns
  rotate_left
  ·have ehns : ¬ sp = [] := of_decide_eq_true hns
   refine ZR ?_
   iterate 6 refine WX1 ?_
   first | refine ZP (zd (b := []) hnp rfl Tryz.underlying9 rfl rfl) ?_ | refine ZS ?_
   iterate 8 refine WX1 ?_
   first | refine ZP (zd (b := []) hnj rfl Tryz.underlying9 rfl rfl) ?_ | refine ZS ?_
   iterate 9 refine WX1 ?_
   first | refine ZP (zd (b := []) hns rfl Tryz.underlying9 rfl rfl) ?_ | refine ZS ?_
   iterate 19 refine WX1 ?_
   first | refine ZP (zd (b := []) hnf rfl Tryz.underlying9 rfl rfl) ?_ | refine ZS ?_
   refine WE ?_
   refine zb rfl ?_
   refine ZZ ?_
   refine WA ?_
   exact ze [] _ rfl rfl rfl (by decide) (ZNK rfl) (fun _ => .nil) ⟨congrArg (fun z => AV.c (I z)) (by simp [ntF, uP, uJ, uS, uU, uM, hks0, hno, hat, hkd, hkp, ehnj, ehns]), rfl⟩
  have ehns : sp = [] := Decidable.not_not.1 (of_decide_eq_false hns)
  by_cases hn : n = 0
  rotate_left
  ·refine ZR ?_
   iterate 6 refine WX1 ?_
   first | refine ZP (zd (b := []) hnp rfl Tryz.underlying9 rfl rfl) ?_ | refine ZS ?_
   iterate 8 refine WX1 ?_
   first | refine ZP (zd (b := []) hnj rfl Tryz.underlying9 rfl rfl) ?_ | refine ZS ?_
   iterate 9 refine WX1 ?_
   first | refine ZP (zd (b := []) hns rfl Tryz.underlying9 rfl rfl) ?_ | refine ZS ?_
   iterate 19 refine WX1 ?_
   first | refine ZP (zd (b := []) hnf rfl Tryz.underlying9 rfl rfl) ?_ | refine ZS ?_
   refine WE ?_
   refine zb rfl ?_
   refine ZZ ?_
   refine WA ?_
   exact ze [] _ rfl rfl rfl (by decide) (ZNK rfl) (fun _ => .nil) ⟨congrArg (fun z => AV.c (I z)) (by simp [ntF, uP, uJ, uS, uU, uM, hks0, hno, hat, hkd, hkp, ehnj, ehns, hn]), rfl⟩
  cases nf
  rotate_left
  ·have ehnf : ¬ of_ = [] := of_decide_eq_true hnf
   refine ZR ?_
   iterate 6 refine WX1 ?_
   first | refine ZP (zd (b := []) hnp rfl Tryz.underlying9 rfl rfl) ?_ | refine ZS ?_
   iterate 8 refine WX1 ?_
   first | refine ZP (zd (b := []) hnj rfl Tryz.underlying9 rfl rfl) ?_ | refine ZS ?_
   iterate 9 refine WX1 ?_
   first | refine ZP (zd (b := []) hns rfl Tryz.underlying9 rfl rfl) ?_ | refine ZS ?_
   iterate 19 refine WX1 ?_
   first | refine ZP (zd (b := []) hnf rfl Tryz.underlying9 rfl rfl) ?_ | refine ZS ?_
   refine WE ?_
   refine zb rfl ?_
   refine ZZ ?_
   refine WA ?_
   exact ze [] _ rfl rfl rfl (by decide) (ZNK rfl) (fun _ => .nil) ⟨congrArg (fun z => AV.c (I z)) (by simp [ntF, uP, uJ, uS, uU, uM, hks0, hno, hat, hkd, hkp, ehnj, ehns, hn, ehnf]), rfl⟩
  have ehnf : of_ = [] := Decidable.not_not.1 (of_decide_eq_false hnf)
  by_cases hot : ot = 0
  rotate_left
  ·refine ZR ?_
   iterate 6 refine WX1 ?_
   first | refine ZP (zd (b := []) hnp rfl Tryz.underlying9 rfl rfl) ?_ | refine ZS ?_
   iterate 8 refine WX1 ?_
   first | refine ZP (zd (b := []) hnj rfl Tryz.underlying9 rfl rfl) ?_ | refine ZS ?_
   iterate 9 refine WX1 ?_
   first | refine ZP (zd (b := []) hns rfl Tryz.underlying9 rfl rfl) ?_ | refine ZS ?_
   iterate 19 refine WX1 ?_
   first | refine ZP (zd (b := []) hnf rfl Tryz.underlying9 rfl rfl) ?_ | refine ZS ?_
   refine WE ?_
   refine zb rfl ?_
   refine ZZ ?_
   refine WA ?_
   exact ze [] _ rfl rfl rfl (by decide) (ZNK rfl) (fun _ => .nil) ⟨congrArg (fun z => AV.c (I z)) (by simp [ntF, uP, uJ, uS, uU, uM, hks0, hno, hat, hkd, hkp, ehnj, ehns, hn, ehnf, hot]), rfl⟩
  refine ZR ?_
  iterate 6 refine WX1 ?_
  first | refine ZP (zd (b := []) hnp rfl Tryz.underlying9 rfl rfl) ?_ | refine ZS ?_
  iterate 8 refine WX1 ?_
  first | refine ZP (zd (b := []) hnj rfl Tryz.underlying9 rfl rfl) ?_ | refine ZS ?_
  iterate 9 refine WX1 ?_
  first | refine ZP (zd (b := []) hns rfl Tryz.underlying9 rfl rfl) ?_ | refine ZS ?_
  iterate 19 refine WX1 ?_
  first | refine ZP (zd (b := []) hnf rfl Tryz.underlying9 rfl rfl) ?_ | refine ZS ?_
  refine WE ?_
  refine za rfl ?_
  refine ZZ ?_
  refine WA ?_
  exact ze [] _ rfl rfl rfl (by decide) (ZNK rfl) (fun _ => .nil) ⟨congrArg (fun z => AV.c (I z)) (by simp [ntF, uP, uJ, uS, uU, uM, hks0, hno, hat, hkd, hkp, ehnj, ehns, hn, ehnf, hot]), rfl⟩
 ·-- kind 4
  obtain ⟨on, hon⟩ : ∃ q, outB n 1 1 = q := ⟨_, rfl⟩
  refine WR ?_
  refine zf rfl (zc false (fun _ => zE2 4) rfl .fn rfl (by decide) (by kernel_rfl) rfl (fun _ => C0 rfl) (by simp)) ?_
  rintro _ _ ⟨_, _, _, ⟨rfl, rfl⟩, hF, hH⟩
  rw [usA_4] at hF
  (refine NST hF hH ?_; clear hF hH; rintro rfl rfl)
  refine WE ?_
  cases kp
  ·refine WR ?_
   first | refine ZS ?_ | (refine G1 rfl ?_; refine zf rfl (zc false (fun _ => zk _ (by omega)) rfl .fn rfl (by decide) (by kernel_rfl) rfl (fun _ => C0 rfl) (by simp)) ?_; rintro _ _ ⟨_, _, _, ⟨rfl, rfl⟩, hF, hH⟩; rw [hkp] at hF; (refine NST hF hH ?_; clear hF hH; rintro rfl rfl)) | skip
   refine WO ?_
   first | refine ZS ?_ | (refine G1 rfl ?_; refine zf rfl (zc false (fun _ => zk _ (by omega)) rfl .fn rfl (by decide) (by kernel_rfl) rfl (fun _ => C0 rfl) (by simp)) ?_; rintro _ _ ⟨_, _, _, ⟨rfl, rfl⟩, hF, hH⟩; rw [hkj] at hF; (refine NST hF hH ?_; clear hF hH; rintro rfl rfl)) | skip
   refine WO ?_
   first | refine ZS ?_ | (refine G1 rfl ?_; refine zf rfl (zc false (fun _ => zk _ (by omega)) rfl .fn rfl (by decide) (by kernel_rfl) rfl (fun _ => C0 rfl) (by simp)) ?_; rintro _ _ ⟨_, _, _, ⟨rfl, rfl⟩, hF, hH⟩; rw [hks] at hF; (refine NST hF hH ?_; clear hF hH; rintro rfl rfl)) | skip
   refine WO ?_
   first | refine ZS ?_ | (refine G1 rfl ?_; refine zf rfl (zc false (fun _ => zk _ (by omega)) rfl .fn rfl (by decide) (by kernel_rfl) rfl (fun _ => C0 rfl) (by simp)) ?_; rintro _ _ ⟨_, _, _, ⟨rfl, rfl⟩, hF, hH⟩; rw [hko] at hF; (refine NST hF hH ?_; clear hF hH; rintro rfl rfl)) | skip
   refine WE ?_
   refine zb rfl ?_
   refine ZZ ?_
   refine WA ?_
   exact ze [] _ rfl rfl rfl (by decide) (ZNK rfl) (fun _ => .nil) ⟨congrArg (fun z => AV.c (I z)) (by simp [ntF, uP, uJ, uS, uU, uM, hks0, hno, hat, hkd, hkp]), rfl⟩
  refine WR ?_
  first | refine ZS ?_ | (refine G1 rfl ?_; refine zf rfl (zc false (fun _ => zk _ (by omega)) rfl .fn rfl (by decide) (by kernel_rfl) rfl (fun _ => C0 rfl) (by simp)) ?_; rintro _ _ ⟨_, _, _, ⟨rfl, rfl⟩, hF, hH⟩; rw [hkp] at hF; (refine NST hF hH ?_; clear hF hH; rintro rfl rfl)) | skip
  refine WO ?_
  first | refine ZS ?_ | (refine G1 rfl ?_; refine zf rfl (zc false (fun _ => zk _ (by omega)) rfl .fn rfl (by decide) (by kernel_rfl) rfl (fun _ => C0 rfl) (by simp)) ?_; rintro _ _ ⟨_, _, _, ⟨rfl, rfl⟩, hF, hH⟩; rw [hkj] at hF; (refine NST hF hH ?_; clear hF hH; rintro rfl rfl)) | skip
  refine WO ?_
  first | refine ZS ?_ | (refine G1 rfl ?_; refine zf rfl (zc false (fun _ => zk _ (by omega)) rfl .fn rfl (by decide) (by kernel_rfl) rfl (fun _ => C0 rfl) (by simp)) ?_; rintro _ _ ⟨_, _, _, ⟨rfl, rfl⟩, hF, hH⟩; rw [hks] at hF; (refine NST hF hH ?_; clear hF hH; rintro rfl rfl)) | skip
  refine WO ?_
  first | refine ZS ?_ | (refine G1 rfl ?_; refine zf rfl (zc false (fun _ => zk _ (by omega)) rfl .fn rfl (by decide) (by kernel_rfl) rfl (fun _ => C0 rfl) (by simp)) ?_; rintro _ _ ⟨_, _, _, ⟨rfl, rfl⟩, hF, hH⟩; rw [hko] at hF; (refine NST hF hH ?_; clear hF hH; rintro rfl rfl)) | skip
  refine WE ?_
  refine za rfl ?_
  refine ZZ ?_
  refine WR ?_
  first | refine ZS ?_ | (refine G1 rfl ?_; refine zf rfl (zc false (fun _ => zE1 _ _ _) rfl .fn rfl (by decide) (by kernel_rfl) rfl (fun _ => C0 rfl) (by simp)) ?_; rintro _ _ ⟨_, _, _, ⟨rfl, rfl⟩, hF, hH⟩; rw [hon] at hF; (refine NST hF hH ?_; clear hF hH; rintro rfl rfl)) | skip
  refine WO ?_
  first | refine ZS ?_ | (refine G1 rfl ?_; refine zf rfl (zc false (fun _ => zE1 _ _ _) rfl .fn rfl (by decide) (by kernel_rfl) rfl (fun _ => C0 rfl) (by simp)) ?_; rintro _ _ ⟨_, _, _, ⟨rfl, rfl⟩, hF, hH⟩; rw [hoo] at hF; (refine NST hF hH ?_; clear hF hH; rintro rfl rfl)) | skip
  refine WE ?_
  refine za rfl ?_
  refine ZZ ?_
  cases nj
  rotate_left
  ·have ehnj : ¬ jb = [] := of_decide_eq_true hnj
   refine ZR ?_
   iterate 6 refine WX1 ?_
   first | refine ZP (zd (b := []) hnp rfl Tryz.underlying9 rfl rfl) ?_ | refine ZS ?_
   iterate 8 refine WX1 ?_
   first | refine ZP (zd (b := []) hnj rfl Tryz.underlying9 rfl rfl) ?_ | refine ZS ?_
   iterate 9 refine WX1 ?_
   first | refine ZP (zd (b := []) hns rfl Tryz.underlying9 rfl rfl) ?_ | refine ZS ?_
   iterate 19 refine WX1 ?_
   first | refine ZP (zd (b := []) hnf rfl Tryz.underlying9 rfl rfl) ?_ | refine ZS ?_
   refine WE ?_
   refine zb rfl ?_
   refine ZZ ?_
   refine WA ?_
   exact ze [] _ rfl rfl rfl (by decide) (ZNK rfl) (fun _ => .nil) ⟨congrArg (fun z => AV.c (I z)) (by simp [ntF, uP, uJ, uS, uU, uM, hks0, hno, hat, hkd, hkp, ehnj]), rfl⟩
  have ehnj : jb = [] := Decidable.not_not.1 (of_decide_eq_false hnj)
  cases ns
  rotate_left
  ·have ehns : ¬ sp = [] := of_decide_eq_true hns
   refine ZR ?_
   iterate 6 refine WX1 ?_
   first | refine ZP (zd (b := []) hnp rfl Tryz.underlying9 rfl rfl) ?_ | refine ZS ?_
   iterate 8 refine WX1 ?_
   first | refine ZP (zd (b := []) hnj rfl Tryz.underlying9 rfl rfl) ?_ | refine ZS ?_
   iterate 9 refine WX1 ?_
   first | refine ZP (zd (b := []) hns rfl Tryz.underlying9 rfl rfl) ?_ | refine ZS ?_
   iterate 19 refine WX1 ?_
   first | refine ZP (zd (b := []) hnf rfl Tryz.underlying9 rfl rfl) ?_ | refine ZS ?_
   refine WE ?_
   refine zb rfl ?_
   refine ZZ ?_
   refine WA ?_
   exact ze [] _ rfl rfl rfl (by decide) (ZNK rfl) (fun _ => .nil) ⟨congrArg (fun z => AV.c (I z)) (by simp [ntF, uP, uJ, uS, uU, uM, hks0, hno, hat, hkd, hkp, ehnj, ehns]), rfl⟩
  have ehns : sp = [] := Decidable.not_not.1 (of_decide_eq_false hns)
  by_cases hn : n = 0
  rotate_left
  ·refine ZR ?_
   iterate 6 refine WX1 ?_
   first | refine ZP (zd (b := []) hnp rfl Tryz.underlying9 rfl rfl) ?_ | refine ZS ?_
   iterate 8 refine WX1 ?_
   first | refine ZP (zd (b := []) hnj rfl Tryz.underlying9 rfl rfl) ?_ | refine ZS ?_
   iterate 9 refine WX1 ?_
   first | refine ZP (zd (b := []) hns rfl Tryz.underlying9 rfl rfl) ?_ | refine ZS ?_
   iterate 19 refine WX1 ?_
   first | refine ZP (zd (b := []) hnf rfl Tryz.underlying9 rfl rfl) ?_ | refine ZS ?_
   refine WE ?_
   refine zb rfl ?_
   refine ZZ ?_
   refine WA ?_
   exact ze [] _ rfl rfl rfl (by decide) (ZNK rfl) (fun _ => .nil) ⟨congrArg (fun z => AV.c (I z)) (by simp [ntF, uP, uJ, uS, uU, uM, hks0, hno, hat, hkd, hkp, ehnj, ehns, hn]), rfl⟩
  cases nf
  rotate_left
  ·have ehnf : ¬ of_ = [] := of_decide_eq_true hnf
   refine ZR ?_
   iterate 6 refine WX1 ?_
   first | refine ZP (zd (b := []) hnp rfl Tryz.underlying9 rfl rfl) ?_ | refine ZS ?_
   iterate 8 refine WX1 ?_
   first | refine ZP (zd (b := []) hnj rfl Tryz.underlying9 rfl rfl) ?_ | refine ZS ?_
   iterate 9 refine WX1 ?_
   first | refine ZP (zd (b := []) hns rfl Tryz.underlying9 rfl rfl) ?_ | refine ZS ?_
   iterate 19 refine WX1 ?_
   first | refine ZP (zd (b := []) hnf rfl Tryz.underlying9 rfl rfl) ?_ | refine ZS ?_
   refine WE ?_
   refine zb rfl ?_
   refine ZZ ?_
   refine WA ?_
   exact ze [] _ rfl rfl rfl (by decide) (ZNK rfl) (fun _ => .nil) ⟨congrArg (fun z => AV.c (I z)) (by simp [ntF, uP, uJ, uS, uU, uM, hks0, hno, hat, hkd, hkp, ehnj, ehns, hn, ehnf]), rfl⟩
  have ehnf : of_ = [] := Decidable.not_not.1 (of_decide_eq_false hnf)
  by_cases hot : ot = 0
  rotate_left
  ·refine ZR ?_
   iterate 6 refine WX1 ?_
   first | refine ZP (zd (b := []) hnp rfl Tryz.underlying9 rfl rfl) ?_ | refine ZS ?_
   iterate 8 refine WX1 ?_
   first | refine ZP (zd (b := []) hnj rfl Tryz.underlying9 rfl rfl) ?_ | refine ZS ?_
   iterate 9 refine WX1 ?_
   first | refine ZP (zd (b := []) hns rfl Tryz.underlying9 rfl rfl) ?_ | refine ZS ?_
   iterate 19 refine WX1 ?_
   first | refine ZP (zd (b := []) hnf rfl Tryz.underlying9 rfl rfl) ?_ | refine ZS ?_
   refine WE ?_
   refine zb rfl ?_
   refine ZZ ?_
   refine WA ?_
   exact ze [] _ rfl rfl rfl (by decide) (ZNK rfl) (fun _ => .nil) ⟨congrArg (fun z => AV.c (I z)) (by simp [ntF, uP, uJ, uS, uU, uM, hks0, hno, hat, hkd, hkp, ehnj, ehns, hn, ehnf, hot]), rfl⟩
  refine ZR ?_
  iterate 6 refine WX1 ?_
  first | refine ZP (zd (b := []) hnp rfl Tryz.underlying9 rfl rfl) ?_ | refine ZS ?_
  iterate 8 refine WX1 ?_
  first | refine ZP (zd (b := []) hnj rfl Tryz.underlying9 rfl rfl) ?_ | refine ZS ?_
  iterate 9 refine WX1 ?_
  first | refine ZP (zd (b := []) hns rfl Tryz.underlying9 rfl rfl) ?_ | refine ZS ?_
  iterate 19 refine WX1 ?_
  first | refine ZP (zd (b := []) hnf rfl Tryz.underlying9 rfl rfl) ?_ | refine ZS ?_
  refine WE ?_
  refine za rfl ?_
  refine ZZ ?_
  refine WA ?_
  exact ze [] _ rfl rfl rfl (by decide) (ZNK rfl) (fun _ => .nil) ⟨congrArg (fun z => AV.c (I z)) (by simp [ntF, uP, uJ, uS, uU, uM, hks0, hno, hat, hkd, hkp, ehnj, ehns, hn, ehnf, hot]), rfl⟩
 ·-- kind 5
  obtain ⟨on, hon⟩ : ∃ q, outB n 1 100000000 = q := ⟨_, rfl⟩
  refine WR ?_
  refine zf rfl (zc false (fun _ => zE2 5) rfl .fn rfl (by decide) (by kernel_rfl) rfl (fun _ => C0 rfl) (by simp)) ?_
  rintro _ _ ⟨_, _, _, ⟨rfl, rfl⟩, hF, hH⟩
  rw [usA_5] at hF
  (refine NST hF hH ?_; clear hF hH; rintro rfl rfl)
  refine WE ?_
  cases kp
  ·refine WR ?_
   first | refine ZS ?_ | (refine G1 rfl ?_; refine zf rfl (zc false (fun _ => zk _ (by omega)) rfl .fn rfl (by decide) (by kernel_rfl) rfl (fun _ => C0 rfl) (by simp)) ?_; rintro _ _ ⟨_, _, _, ⟨rfl, rfl⟩, hF, hH⟩; rw [hkp] at hF; (refine NST hF hH ?_; clear hF hH; rintro rfl rfl)) | skip
   refine WO ?_
   first | refine ZS ?_ | (refine G1 rfl ?_; refine zf rfl (zc false (fun _ => zk _ (by omega)) rfl .fn rfl (by decide) (by kernel_rfl) rfl (fun _ => C0 rfl) (by simp)) ?_; rintro _ _ ⟨_, _, _, ⟨rfl, rfl⟩, hF, hH⟩; rw [hkj] at hF; (refine NST hF hH ?_; clear hF hH; rintro rfl rfl)) | skip
   refine WO ?_
   first | refine ZS ?_ | (refine G1 rfl ?_; refine zf rfl (zc false (fun _ => zk _ (by omega)) rfl .fn rfl (by decide) (by kernel_rfl) rfl (fun _ => C0 rfl) (by simp)) ?_; rintro _ _ ⟨_, _, _, ⟨rfl, rfl⟩, hF, hH⟩; rw [hks] at hF; (refine NST hF hH ?_; clear hF hH; rintro rfl rfl)) | skip
   refine WO ?_
   first | refine ZS ?_ | (refine G1 rfl ?_; refine zf rfl (zc false (fun _ => zk _ (by omega)) rfl .fn rfl (by decide) (by kernel_rfl) rfl (fun _ => C0 rfl) (by simp)) ?_; rintro _ _ ⟨_, _, _, ⟨rfl, rfl⟩, hF, hH⟩; rw [hko] at hF; (refine NST hF hH ?_; clear hF hH; rintro rfl rfl)) | skip
   refine WE ?_
   refine zb rfl ?_
   refine ZZ ?_
   refine WA ?_
   exact ze [] _ rfl rfl rfl (by decide) (ZNK rfl) (fun _ => .nil) ⟨congrArg (fun z => AV.c (I z)) (by simp [ntF, uP, uJ, uS, uU, uM, hks0, hno, hat, hkd, hkp]), rfl⟩
  cases ks
  ·refine WR ?_
   first | refine ZS ?_ | (refine G1 rfl ?_; refine zf rfl (zc false (fun _ => zk _ (by omega)) rfl .fn rfl (by decide) (by kernel_rfl) rfl (fun _ => C0 rfl) (by simp)) ?_; rintro _ _ ⟨_, _, _, ⟨rfl, rfl⟩, hF, hH⟩; rw [hkp] at hF; (refine NST hF hH ?_; clear hF hH; rintro rfl rfl)) | skip
   refine WO ?_
   first | refine ZS ?_ | (refine G1 rfl ?_; refine zf rfl (zc false (fun _ => zk _ (by omega)) rfl .fn rfl (by decide) (by kernel_rfl) rfl (fun _ => C0 rfl) (by simp)) ?_; rintro _ _ ⟨_, _, _, ⟨rfl, rfl⟩, hF, hH⟩; rw [hkj] at hF; (refine NST hF hH ?_; clear hF hH; rintro rfl rfl)) | skip
   refine WO ?_
   first | refine ZS ?_ | (refine G1 rfl ?_; refine zf rfl (zc false (fun _ => zk _ (by omega)) rfl .fn rfl (by decide) (by kernel_rfl) rfl (fun _ => C0 rfl) (by simp)) ?_; rintro _ _ ⟨_, _, _, ⟨rfl, rfl⟩, hF, hH⟩; rw [hks] at hF; (refine NST hF hH ?_; clear hF hH; rintro rfl rfl)) | skip
   refine WO ?_
   first | refine ZS ?_ | (refine G1 rfl ?_; refine zf rfl (zc false (fun _ => zk _ (by omega)) rfl .fn rfl (by decide) (by kernel_rfl) rfl (fun _ => C0 rfl) (by simp)) ?_; rintro _ _ ⟨_, _, _, ⟨rfl, rfl⟩, hF, hH⟩; rw [hko] at hF; (refine NST hF hH ?_; clear hF hH; rintro rfl rfl)) | skip
   refine WE ?_
   refine zb rfl ?_
   refine ZZ ?_
   refine WA ?_
   exact ze [] _ rfl rfl rfl (by decide) (ZNK rfl) (fun _ => .nil) ⟨congrArg (fun z => AV.c (I z)) (by simp [ntF, uP, uJ, uS, uU, uM, hks0, hno, hat, hkd, hkp, hks]), rfl⟩
  refine WR ?_
  first | refine ZS ?_ | (refine G1 rfl ?_; refine zf rfl (zc false (fun _ => zk _ (by omega)) rfl .fn rfl (by decide) (by kernel_rfl) rfl (fun _ => C0 rfl) (by simp)) ?_; rintro _ _ ⟨_, _, _, ⟨rfl, rfl⟩, hF, hH⟩; rw [hkp] at hF; (refine NST hF hH ?_; clear hF hH; rintro rfl rfl)) | skip
  refine WO ?_
  first | refine ZS ?_ | (refine G1 rfl ?_; refine zf rfl (zc false (fun _ => zk _ (by omega)) rfl .fn rfl (by decide) (by kernel_rfl) rfl (fun _ => C0 rfl) (by simp)) ?_; rintro _ _ ⟨_, _, _, ⟨rfl, rfl⟩, hF, hH⟩; rw [hkj] at hF; (refine NST hF hH ?_; clear hF hH; rintro rfl rfl)) | skip
  refine WO ?_
  first | refine ZS ?_ | (refine G1 rfl ?_; refine zf rfl (zc false (fun _ => zk _ (by omega)) rfl .fn rfl (by decide) (by kernel_rfl) rfl (fun _ => C0 rfl) (by simp)) ?_; rintro _ _ ⟨_, _, _, ⟨rfl, rfl⟩, hF, hH⟩; rw [hks] at hF; (refine NST hF hH ?_; clear hF hH; rintro rfl rfl)) | skip
  refine WO ?_
  first | refine ZS ?_ | (refine G1 rfl ?_; refine zf rfl (zc false (fun _ => zk _ (by omega)) rfl .fn rfl (by decide) (by kernel_rfl) rfl (fun _ => C0 rfl) (by simp)) ?_; rintro _ _ ⟨_, _, _, ⟨rfl, rfl⟩, hF, hH⟩; rw [hko] at hF; (refine NST hF hH ?_; clear hF hH; rintro rfl rfl)) | skip
  refine WE ?_
  refine za rfl ?_
  refine ZZ ?_
  cases on
  rotate_left
  ·refine WR ?_
   first | refine ZS ?_ | (refine G1 rfl ?_; refine zf rfl (zc false (fun _ => zE1 _ _ _) rfl .fn rfl (by decide) (by kernel_rfl) rfl (fun _ => C0 rfl) (by simp)) ?_; rintro _ _ ⟨_, _, _, ⟨rfl, rfl⟩, hF, hH⟩; rw [hon] at hF; (refine NST hF hH ?_; clear hF hH; rintro rfl rfl)) | skip
   refine WO ?_
   first | refine ZS ?_ | (refine G1 rfl ?_; refine zf rfl (zc false (fun _ => zE1 _ _ _) rfl .fn rfl (by decide) (by kernel_rfl) rfl (fun _ => C0 rfl) (by simp)) ?_; rintro _ _ ⟨_, _, _, ⟨rfl, rfl⟩, hF, hH⟩; rw [hoo] at hF; (refine NST hF hH ?_; clear hF hH; rintro rfl rfl)) | skip
   refine WE ?_
   refine zb rfl ?_
   refine ZZ ?_
   refine WA ?_
   exact ze [] _ rfl rfl rfl (by decide) (ZNK rfl) (fun _ => .nil) ⟨congrArg (fun z => AV.c (I z)) (by simp [ntF, uP, uJ, uS, uU, uM, hks0, hno, hat, hkd, hkp, hks, hon]), rfl⟩
  refine WR ?_
  first | refine ZS ?_ | (refine G1 rfl ?_; refine zf rfl (zc false (fun _ => zE1 _ _ _) rfl .fn rfl (by decide) (by kernel_rfl) rfl (fun _ => C0 rfl) (by simp)) ?_; rintro _ _ ⟨_, _, _, ⟨rfl, rfl⟩, hF, hH⟩; rw [hon] at hF; (refine NST hF hH ?_; clear hF hH; rintro rfl rfl)) | skip
  refine WO ?_
  first | refine ZS ?_ | (refine G1 rfl ?_; refine zf rfl (zc false (fun _ => zE1 _ _ _) rfl .fn rfl (by decide) (by kernel_rfl) rfl (fun _ => C0 rfl) (by simp)) ?_; rintro _ _ ⟨_, _, _, ⟨rfl, rfl⟩, hF, hH⟩; rw [hoo] at hF; (refine NST hF hH ?_; clear hF hH; rintro rfl rfl)) | skip
  refine WE ?_
  refine za rfl ?_
  refine ZZ ?_
  cases nj
  rotate_left
  ·have ehnj : ¬ jb = [] := of_decide_eq_true hnj
   refine ZR ?_
   iterate 6 refine WX1 ?_
   first | refine ZP (zd (b := []) hnp rfl Tryz.underlying9 rfl rfl) ?_ | refine ZS ?_
   iterate 8 refine WX1 ?_
   first | refine ZP (zd (b := []) hnj rfl Tryz.underlying9 rfl rfl) ?_ | refine ZS ?_
   iterate 9 refine WX1 ?_
   first | refine ZP (zd (b := []) hns rfl Tryz.underlying9 rfl rfl) ?_ | refine ZS ?_
   iterate 19 refine WX1 ?_
   first | refine ZP (zd (b := []) hnf rfl Tryz.underlying9 rfl rfl) ?_ | refine ZS ?_
   refine WE ?_
   refine zb rfl ?_
   refine ZZ ?_
   refine WA ?_
   exact ze [] _ rfl rfl rfl (by decide) (ZNK rfl) (fun _ => .nil) ⟨congrArg (fun z => AV.c (I z)) (by simp [ntF, uP, uJ, uS, uU, uM, hks0, hno, hat, hkd, hkp, hks, hon, ehnj]), rfl⟩
  have ehnj : jb = [] := Decidable.not_not.1 (of_decide_eq_false hnj)
  cases nf
  rotate_left
  ·have ehnf : ¬ of_ = [] := of_decide_eq_true hnf
   refine ZR ?_
   iterate 6 refine WX1 ?_
   first | refine ZP (zd (b := []) hnp rfl Tryz.underlying9 rfl rfl) ?_ | refine ZS ?_
   iterate 8 refine WX1 ?_
   first | refine ZP (zd (b := []) hnj rfl Tryz.underlying9 rfl rfl) ?_ | refine ZS ?_
   iterate 9 refine WX1 ?_
   first | refine ZP (zd (b := []) hns rfl Tryz.underlying9 rfl rfl) ?_ | refine ZS ?_
   iterate 19 refine WX1 ?_
   first | refine ZP (zd (b := []) hnf rfl Tryz.underlying9 rfl rfl) ?_ | refine ZS ?_
   refine WE ?_
   refine zb rfl ?_
   refine ZZ ?_
   refine WA ?_
   exact ze [] _ rfl rfl rfl (by decide) (ZNK rfl) (fun _ => .nil) ⟨congrArg (fun z => AV.c (I z)) (by simp [ntF, uP, uJ, uS, uU, uM, hks0, hno, hat, hkd, hkp, hks, hon, ehnj, ehnf]), rfl⟩
  have ehnf : of_ = [] := Decidable.not_not.1 (of_decide_eq_false hnf)
  by_cases hot : ot = 0
  rotate_left
  ·refine ZR ?_
   iterate 6 refine WX1 ?_
   first | refine ZP (zd (b := []) hnp rfl Tryz.underlying9 rfl rfl) ?_ | refine ZS ?_
   iterate 8 refine WX1 ?_
   first | refine ZP (zd (b := []) hnj rfl Tryz.underlying9 rfl rfl) ?_ | refine ZS ?_
   iterate 9 refine WX1 ?_
   first | refine ZP (zd (b := []) hns rfl Tryz.underlying9 rfl rfl) ?_ | refine ZS ?_
   iterate 19 refine WX1 ?_
   first | refine ZP (zd (b := []) hnf rfl Tryz.underlying9 rfl rfl) ?_ | refine ZS ?_
   refine WE ?_
   refine zb rfl ?_
   refine ZZ ?_
   refine WA ?_
   exact ze [] _ rfl rfl rfl (by decide) (ZNK rfl) (fun _ => .nil) ⟨congrArg (fun z => AV.c (I z)) (by simp [ntF, uP, uJ, uS, uU, uM, hks0, hno, hat, hkd, hkp, hks, hon, ehnj, ehnf, hot]), rfl⟩
  refine ZR ?_
  iterate 6 refine WX1 ?_
  first | refine ZP (zd (b := []) hnp rfl Tryz.underlying9 rfl rfl) ?_ | refine ZS ?_
  iterate 8 refine WX1 ?_
  first | refine ZP (zd (b := []) hnj rfl Tryz.underlying9 rfl rfl) ?_ | refine ZS ?_
  iterate 9 refine WX1 ?_
  first | refine ZP (zd (b := []) hns rfl Tryz.underlying9 rfl rfl) ?_ | refine ZS ?_
  iterate 19 refine WX1 ?_
  first | refine ZP (zd (b := []) hnf rfl Tryz.underlying9 rfl rfl) ?_ | refine ZS ?_
  refine WE ?_
  refine za rfl ?_
  refine ZZ ?_
  refine WA ?_
  exact ze [] _ rfl rfl rfl (by decide) (ZNK rfl) (fun _ => .nil) ⟨congrArg (fun z => AV.c (I z)) (by simp [ntF, uP, uJ, uS, uU, uM, hks0, hno, hat, hkd, hkp, hks, hon, ehnj, ehnf, hot]), rfl⟩
 ·-- kind 6
  obtain ⟨on, hon⟩ : ∃ q, outB n 1 100000000 = q := ⟨_, rfl⟩
  refine WR ?_
  refine zf rfl (zc false (fun _ => zE2 6) rfl .fn rfl (by decide) (by kernel_rfl) rfl (fun _ => C0 rfl) (by simp)) ?_
  rintro _ _ ⟨_, _, _, ⟨rfl, rfl⟩, hF, hH⟩
  rw [usA_6] at hF
  (refine NST hF hH ?_; clear hF hH; rintro rfl rfl)
  refine WE ?_
  cases kp
  ·refine WR ?_
   first | refine ZS ?_ | (refine G1 rfl ?_; refine zf rfl (zc false (fun _ => zk _ (by omega)) rfl .fn rfl (by decide) (by kernel_rfl) rfl (fun _ => C0 rfl) (by simp)) ?_; rintro _ _ ⟨_, _, _, ⟨rfl, rfl⟩, hF, hH⟩; rw [hkp] at hF; (refine NST hF hH ?_; clear hF hH; rintro rfl rfl)) | skip
   refine WO ?_
   first | refine ZS ?_ | (refine G1 rfl ?_; refine zf rfl (zc false (fun _ => zk _ (by omega)) rfl .fn rfl (by decide) (by kernel_rfl) rfl (fun _ => C0 rfl) (by simp)) ?_; rintro _ _ ⟨_, _, _, ⟨rfl, rfl⟩, hF, hH⟩; rw [hkj] at hF; (refine NST hF hH ?_; clear hF hH; rintro rfl rfl)) | skip
   refine WO ?_
   first | refine ZS ?_ | (refine G1 rfl ?_; refine zf rfl (zc false (fun _ => zk _ (by omega)) rfl .fn rfl (by decide) (by kernel_rfl) rfl (fun _ => C0 rfl) (by simp)) ?_; rintro _ _ ⟨_, _, _, ⟨rfl, rfl⟩, hF, hH⟩; rw [hks] at hF; (refine NST hF hH ?_; clear hF hH; rintro rfl rfl)) | skip
   refine WO ?_
   first | refine ZS ?_ | (refine G1 rfl ?_; refine zf rfl (zc false (fun _ => zk _ (by omega)) rfl .fn rfl (by decide) (by kernel_rfl) rfl (fun _ => C0 rfl) (by simp)) ?_; rintro _ _ ⟨_, _, _, ⟨rfl, rfl⟩, hF, hH⟩; rw [hko] at hF; (refine NST hF hH ?_; clear hF hH; rintro rfl rfl)) | skip
   refine WE ?_
   refine zb rfl ?_
   refine ZZ ?_
   refine WA ?_
   exact ze [] _ rfl rfl rfl (by decide) (ZNK rfl) (fun _ => .nil) ⟨congrArg (fun z => AV.c (I z)) (by simp [ntF, uP, uJ, uS, uU, uM, hks0, hno, hat, hkd, hkp]), rfl⟩
  refine WR ?_
  first | refine ZS ?_ | (refine G1 rfl ?_; refine zf rfl (zc false (fun _ => zk _ (by omega)) rfl .fn rfl (by decide) (by kernel_rfl) rfl (fun _ => C0 rfl) (by simp)) ?_; rintro _ _ ⟨_, _, _, ⟨rfl, rfl⟩, hF, hH⟩; rw [hkp] at hF; (refine NST hF hH ?_; clear hF hH; rintro rfl rfl)) | skip
  refine WO ?_
  first | refine ZS ?_ | (refine G1 rfl ?_; refine zf rfl (zc false (fun _ => zk _ (by omega)) rfl .fn rfl (by decide) (by kernel_rfl) rfl (fun _ => C0 rfl) (by simp)) ?_; rintro _ _ ⟨_, _, _, ⟨rfl, rfl⟩, hF, hH⟩; rw [hkj] at hF; (refine NST hF hH ?_; clear hF hH; rintro rfl rfl)) | skip
  refine WO ?_
  first | refine ZS ?_ | (refine G1 rfl ?_; refine zf rfl (zc false (fun _ => zk _ (by omega)) rfl .fn rfl (by decide) (by kernel_rfl) rfl (fun _ => C0 rfl) (by simp)) ?_; rintro _ _ ⟨_, _, _, ⟨rfl, rfl⟩, hF, hH⟩; rw [hks] at hF; (refine NST hF hH ?_; clear hF hH; rintro rfl rfl)) | skip
  refine WO ?_
  first | refine ZS ?_ | (refine G1 rfl ?_; refine zf rfl (zc false (fun _ => zk _ (by omega)) rfl .fn rfl (by decide) (by kernel_rfl) rfl (fun _ => C0 rfl) (by simp)) ?_; rintro _ _ ⟨_, _, _, ⟨rfl, rfl⟩, hF, hH⟩; rw [hko] at hF; (refine NST hF hH ?_; clear hF hH; rintro rfl rfl)) | skip
  refine WE ?_
  refine za rfl ?_
  refine ZZ ?_
  cases on
  rotate_left
  ·refine WR ?_
   first | refine ZS ?_ | (refine G1 rfl ?_; refine zf rfl (zc false (fun _ => zE1 _ _ _) rfl .fn rfl (by decide) (by kernel_rfl) rfl (fun _ => C0 rfl) (by simp)) ?_; rintro _ _ ⟨_, _, _, ⟨rfl, rfl⟩, hF, hH⟩; rw [hon] at hF; (refine NST hF hH ?_; clear hF hH; rintro rfl rfl)) | skip
   refine WO ?_
   first | refine ZS ?_ | (refine G1 rfl ?_; refine zf rfl (zc false (fun _ => zE1 _ _ _) rfl .fn rfl (by decide) (by kernel_rfl) rfl (fun _ => C0 rfl) (by simp)) ?_; rintro _ _ ⟨_, _, _, ⟨rfl, rfl⟩, hF, hH⟩; rw [hoo] at hF; (refine NST hF hH ?_; clear hF hH; rintro rfl rfl)) | skip
   refine WE ?_
   refine zb rfl ?_
   refine ZZ ?_
   refine WA ?_
   exact ze [] _ rfl rfl rfl (by decide) (ZNK rfl) (fun _ => .nil) ⟨congrArg (fun z => AV.c (I z)) (by simp [ntF, uP, uJ, uS, uU, uM, hks0, hno, hat, hkd, hkp, hon]), rfl⟩
  refine WR ?_
  first | refine ZS ?_ | (refine G1 rfl ?_; refine zf rfl (zc false (fun _ => zE1 _ _ _) rfl .fn rfl (by decide) (by kernel_rfl) rfl (fun _ => C0 rfl) (by simp)) ?_; rintro _ _ ⟨_, _, _, ⟨rfl, rfl⟩, hF, hH⟩; rw [hon] at hF; (refine NST hF hH ?_; clear hF hH; rintro rfl rfl)) | skip
  refine WO ?_
  first | refine ZS ?_ | (refine G1 rfl ?_; refine zf rfl (zc false (fun _ => zE1 _ _ _) rfl .fn rfl (by decide) (by kernel_rfl) rfl (fun _ => C0 rfl) (by simp)) ?_; rintro _ _ ⟨_, _, _, ⟨rfl, rfl⟩, hF, hH⟩; rw [hoo] at hF; (refine NST hF hH ?_; clear hF hH; rintro rfl rfl)) | skip
  refine WE ?_
  refine za rfl ?_
  refine ZZ ?_
  cases nj
  rotate_left
  ·have ehnj : ¬ jb = [] := of_decide_eq_true hnj
   refine ZR ?_
   iterate 6 refine WX1 ?_
   first | refine ZP (zd (b := []) hnp rfl Tryz.underlying9 rfl rfl) ?_ | refine ZS ?_
   iterate 8 refine WX1 ?_
   first | refine ZP (zd (b := []) hnj rfl Tryz.underlying9 rfl rfl) ?_ | refine ZS ?_
   iterate 9 refine WX1 ?_
   first | refine ZP (zd (b := []) hns rfl Tryz.underlying9 rfl rfl) ?_ | refine ZS ?_
   iterate 19 refine WX1 ?_
   first | refine ZP (zd (b := []) hnf rfl Tryz.underlying9 rfl rfl) ?_ | refine ZS ?_
   refine WE ?_
   refine zb rfl ?_
   refine ZZ ?_
   refine WA ?_
   exact ze [] _ rfl rfl rfl (by decide) (ZNK rfl) (fun _ => .nil) ⟨congrArg (fun z => AV.c (I z)) (by simp [ntF, uP, uJ, uS, uU, uM, hks0, hno, hat, hkd, hkp, hon, ehnj]), rfl⟩
  have ehnj : jb = [] := Decidable.not_not.1 (of_decide_eq_false hnj)
  cases ns
  rotate_left
  ·have ehns : ¬ sp = [] := of_decide_eq_true hns
   refine ZR ?_
   iterate 6 refine WX1 ?_
   first | refine ZP (zd (b := []) hnp rfl Tryz.underlying9 rfl rfl) ?_ | refine ZS ?_
   iterate 8 refine WX1 ?_
   first | refine ZP (zd (b := []) hnj rfl Tryz.underlying9 rfl rfl) ?_ | refine ZS ?_
   iterate 9 refine WX1 ?_
   first | refine ZP (zd (b := []) hns rfl Tryz.underlying9 rfl rfl) ?_ | refine ZS ?_
   iterate 19 refine WX1 ?_
   first | refine ZP (zd (b := []) hnf rfl Tryz.underlying9 rfl rfl) ?_ | refine ZS ?_
   refine WE ?_
   refine zb rfl ?_
   refine ZZ ?_
   refine WA ?_
   exact ze [] _ rfl rfl rfl (by decide) (ZNK rfl) (fun _ => .nil) ⟨congrArg (fun z => AV.c (I z)) (by simp [ntF, uP, uJ, uS, uU, uM, hks0, hno, hat, hkd, hkp, hon, ehnj, ehns]), rfl⟩
  have ehns : sp = [] := Decidable.not_not.1 (of_decide_eq_false hns)
  cases nf
  rotate_left
  ·have ehnf : ¬ of_ = [] := of_decide_eq_true hnf
   refine ZR ?_
   iterate 6 refine WX1 ?_
   first | refine ZP (zd (b := []) hnp rfl Tryz.underlying9 rfl rfl) ?_ | refine ZS ?_
   iterate 8 refine WX1 ?_
   first | refine ZP (zd (b := []) hnj rfl Tryz.underlying9 rfl rfl) ?_ | refine ZS ?_
   iterate 9 refine WX1 ?_
   first | refine ZP (zd (b := []) hns rfl Tryz.underlying9 rfl rfl) ?_ | refine ZS ?_
   iterate 19 refine WX1 ?_
   first | refine ZP (zd (b := []) hnf rfl Tryz.underlying9 rfl rfl) ?_ | refine ZS ?_
   refine WE ?_
   refine zb rfl ?_
   refine ZZ ?_
   refine WA ?_
   exact ze [] _ rfl rfl rfl (by decide) (ZNK rfl) (fun _ => .nil) ⟨congrArg (fun z => AV.c (I z)) (by simp [ntF, uP, uJ, uS, uU, uM, hks0, hno, hat, hkd, hkp, hon, ehnj, ehns, ehnf]), rfl⟩
  have ehnf : of_ = [] := Decidable.not_not.1 (of_decide_eq_false hnf)
  by_cases hot : ot = 0
  rotate_left
  ·refine ZR ?_
   iterate 6 refine WX1 ?_
   first | refine ZP (zd (b := []) hnp rfl Tryz.underlying9 rfl rfl) ?_ | refine ZS ?_
   iterate 8 refine WX1 ?_
   first | refine ZP (zd (b := []) hnj rfl Tryz.underlying9 rfl rfl) ?_ | refine ZS ?_
   iterate 9 refine WX1 ?_
   first | refine ZP (zd (b := []) hns rfl Tryz.underlying9 rfl rfl) ?_ | refine ZS ?_
   iterate 19 refine WX1 ?_
   first | refine ZP (zd (b := []) hnf rfl Tryz.underlying9 rfl rfl) ?_ | refine ZS ?_
   refine WE ?_
   refine zb rfl ?_
   refine ZZ ?_
   refine WA ?_
   exact ze [] _ rfl rfl rfl (by decide) (ZNK rfl) (fun _ => .nil) ⟨congrArg (fun z => AV.c (I z)) (by simp [ntF, uP, uJ, uS, uU, uM, hks0, hno, hat, hkd, hkp, hon, ehnj, ehns, ehnf, hot]), rfl⟩
  refine ZR ?_
  iterate 6 refine WX1 ?_
  first | refine ZP (zd (b := []) hnp rfl Tryz.underlying9 rfl rfl) ?_ | refine ZS ?_
  iterate 8 refine WX1 ?_
  first | refine ZP (zd (b := []) hnj rfl Tryz.underlying9 rfl rfl) ?_ | refine ZS ?_
  iterate 9 refine WX1 ?_
  first | refine ZP (zd (b := []) hns rfl Tryz.underlying9 rfl rfl) ?_ | refine ZS ?_
  iterate 19 refine WX1 ?_
  first | refine ZP (zd (b := []) hnf rfl Tryz.underlying9 rfl rfl) ?_ | refine ZS ?_
  refine WE ?_
  refine za rfl ?_
  refine ZZ ?_
  refine WA ?_
  exact ze [] _ rfl rfl rfl (by decide) (ZNK rfl) (fun _ => .nil) ⟨congrArg (fun z => AV.c (I z)) (by simp [ntF, uP, uJ, uS, uU, uM, hks0, hno, hat, hkd, hkp, hon, ehnj, ehns, ehnf, hot]), rfl⟩
 ·-- kind 7
  obtain ⟨on, hon⟩ : ∃ q, outB n 1 1 = q := ⟨_, rfl⟩
  refine WR ?_
  refine zf rfl (zc false (fun _ => zE2 7) rfl .fn rfl (by decide) (by kernel_rfl) rfl (fun _ => C0 rfl) (by simp)) ?_
  rintro _ _ ⟨_, _, _, ⟨rfl, rfl⟩, hF, hH⟩
  rw [usA_7] at hF
  (refine NST hF hH ?_; clear hF hH; rintro rfl rfl)
  refine WE ?_
  cases ko
  ·refine WR ?_
   first | refine ZS ?_ | (refine G1 rfl ?_; refine zf rfl (zc false (fun _ => zk _ (by omega)) rfl .fn rfl (by decide) (by kernel_rfl) rfl (fun _ => C0 rfl) (by simp)) ?_; rintro _ _ ⟨_, _, _, ⟨rfl, rfl⟩, hF, hH⟩; rw [hkp] at hF; (refine NST hF hH ?_; clear hF hH; rintro rfl rfl)) | skip
   refine WO ?_
   first | refine ZS ?_ | (refine G1 rfl ?_; refine zf rfl (zc false (fun _ => zk _ (by omega)) rfl .fn rfl (by decide) (by kernel_rfl) rfl (fun _ => C0 rfl) (by simp)) ?_; rintro _ _ ⟨_, _, _, ⟨rfl, rfl⟩, hF, hH⟩; rw [hkj] at hF; (refine NST hF hH ?_; clear hF hH; rintro rfl rfl)) | skip
   refine WO ?_
   first | refine ZS ?_ | (refine G1 rfl ?_; refine zf rfl (zc false (fun _ => zk _ (by omega)) rfl .fn rfl (by decide) (by kernel_rfl) rfl (fun _ => C0 rfl) (by simp)) ?_; rintro _ _ ⟨_, _, _, ⟨rfl, rfl⟩, hF, hH⟩; rw [hks] at hF; (refine NST hF hH ?_; clear hF hH; rintro rfl rfl)) | skip
   refine WO ?_
   first | refine ZS ?_ | (refine G1 rfl ?_; refine zf rfl (zc false (fun _ => zk _ (by omega)) rfl .fn rfl (by decide) (by kernel_rfl) rfl (fun _ => C0 rfl) (by simp)) ?_; rintro _ _ ⟨_, _, _, ⟨rfl, rfl⟩, hF, hH⟩; rw [hko] at hF; (refine NST hF hH ?_; clear hF hH; rintro rfl rfl)) | skip
   refine WE ?_
   refine zb rfl ?_
   refine ZZ ?_
   refine WA ?_
   exact ze [] _ rfl rfl rfl (by decide) (ZNK rfl) (fun _ => .nil) ⟨congrArg (fun z => AV.c (I z)) (by simp [ntF, uP, uJ, uS, uU, uM, hks0, hno, hat, hkd, hko]), rfl⟩
  refine WR ?_
  first | refine ZS ?_ | (refine G1 rfl ?_; refine zf rfl (zc false (fun _ => zk _ (by omega)) rfl .fn rfl (by decide) (by kernel_rfl) rfl (fun _ => C0 rfl) (by simp)) ?_; rintro _ _ ⟨_, _, _, ⟨rfl, rfl⟩, hF, hH⟩; rw [hkp] at hF; (refine NST hF hH ?_; clear hF hH; rintro rfl rfl)) | skip
  refine WO ?_
  first | refine ZS ?_ | (refine G1 rfl ?_; refine zf rfl (zc false (fun _ => zk _ (by omega)) rfl .fn rfl (by decide) (by kernel_rfl) rfl (fun _ => C0 rfl) (by simp)) ?_; rintro _ _ ⟨_, _, _, ⟨rfl, rfl⟩, hF, hH⟩; rw [hkj] at hF; (refine NST hF hH ?_; clear hF hH; rintro rfl rfl)) | skip
  refine WO ?_
  first | refine ZS ?_ | (refine G1 rfl ?_; refine zf rfl (zc false (fun _ => zk _ (by omega)) rfl .fn rfl (by decide) (by kernel_rfl) rfl (fun _ => C0 rfl) (by simp)) ?_; rintro _ _ ⟨_, _, _, ⟨rfl, rfl⟩, hF, hH⟩; rw [hks] at hF; (refine NST hF hH ?_; clear hF hH; rintro rfl rfl)) | skip
  refine WO ?_
  first | refine ZS ?_ | (refine G1 rfl ?_; refine zf rfl (zc false (fun _ => zk _ (by omega)) rfl .fn rfl (by decide) (by kernel_rfl) rfl (fun _ => C0 rfl) (by simp)) ?_; rintro _ _ ⟨_, _, _, ⟨rfl, rfl⟩, hF, hH⟩; rw [hko] at hF; (refine NST hF hH ?_; clear hF hH; rintro rfl rfl)) | skip
  refine WE ?_
  refine za rfl ?_
  refine ZZ ?_
  cases oo
  rotate_left
  ·refine WR ?_
   first | refine ZS ?_ | (refine G1 rfl ?_; refine zf rfl (zc false (fun _ => zE1 _ _ _) rfl .fn rfl (by decide) (by kernel_rfl) rfl (fun _ => C0 rfl) (by simp)) ?_; rintro _ _ ⟨_, _, _, ⟨rfl, rfl⟩, hF, hH⟩; rw [hon] at hF; (refine NST hF hH ?_; clear hF hH; rintro rfl rfl)) | skip
   refine WO ?_
   first | refine ZS ?_ | (refine G1 rfl ?_; refine zf rfl (zc false (fun _ => zE1 _ _ _) rfl .fn rfl (by decide) (by kernel_rfl) rfl (fun _ => C0 rfl) (by simp)) ?_; rintro _ _ ⟨_, _, _, ⟨rfl, rfl⟩, hF, hH⟩; rw [hoo] at hF; (refine NST hF hH ?_; clear hF hH; rintro rfl rfl)) | skip
   refine WE ?_
   refine zb rfl ?_
   refine ZZ ?_
   refine WA ?_
   exact ze [] _ rfl rfl rfl (by decide) (ZNK rfl) (fun _ => .nil) ⟨congrArg (fun z => AV.c (I z)) (by simp [ntF, uP, uJ, uS, uU, uM, hks0, hno, hat, hkd, hko, hoo]), rfl⟩
  refine WR ?_
  first | refine ZS ?_ | (refine G1 rfl ?_; refine zf rfl (zc false (fun _ => zE1 _ _ _) rfl .fn rfl (by decide) (by kernel_rfl) rfl (fun _ => C0 rfl) (by simp)) ?_; rintro _ _ ⟨_, _, _, ⟨rfl, rfl⟩, hF, hH⟩; rw [hon] at hF; (refine NST hF hH ?_; clear hF hH; rintro rfl rfl)) | skip
  refine WO ?_
  first | refine ZS ?_ | (refine G1 rfl ?_; refine zf rfl (zc false (fun _ => zE1 _ _ _) rfl .fn rfl (by decide) (by kernel_rfl) rfl (fun _ => C0 rfl) (by simp)) ?_; rintro _ _ ⟨_, _, _, ⟨rfl, rfl⟩, hF, hH⟩; rw [hoo] at hF; (refine NST hF hH ?_; clear hF hH; rintro rfl rfl)) | skip
  refine WE ?_
  refine za rfl ?_
  refine ZZ ?_
  cases np
  rotate_left
  ·have ehnp : ¬ pr = [] := of_decide_eq_true hnp
   refine ZR ?_
   iterate 6 refine WX1 ?_
   first | refine ZP (zd (b := []) hnp rfl Tryz.underlying9 rfl rfl) ?_ | refine ZS ?_
   iterate 8 refine WX1 ?_
   first | refine ZP (zd (b := []) hnj rfl Tryz.underlying9 rfl rfl) ?_ | refine ZS ?_
   iterate 9 refine WX1 ?_
   first | refine ZP (zd (b := []) hns rfl Tryz.underlying9 rfl rfl) ?_ | refine ZS ?_
   iterate 19 refine WX1 ?_
   first | refine ZP (zd (b := []) hnf rfl Tryz.underlying9 rfl rfl) ?_ | refine ZS ?_
   refine WE ?_
   refine zb rfl ?_
   refine ZZ ?_
   refine WA ?_
   exact ze [] _ rfl rfl rfl (by decide) (ZNK rfl) (fun _ => .nil) ⟨congrArg (fun z => AV.c (I z)) (by simp [ntF, uP, uJ, uS, uU, uM, hks0, hno, hat, hkd, hko, hoo, ehnp]), rfl⟩
  have ehnp : pr = [] := Decidable.not_not.1 (of_decide_eq_false hnp)
  cases nj
  rotate_left
  ·have ehnj : ¬ jb = [] := of_decide_eq_true hnj
   refine ZR ?_
   iterate 6 refine WX1 ?_
   first | refine ZP (zd (b := []) hnp rfl Tryz.underlying9 rfl rfl) ?_ | refine ZS ?_
   iterate 8 refine WX1 ?_
   first | refine ZP (zd (b := []) hnj rfl Tryz.underlying9 rfl rfl) ?_ | refine ZS ?_
   iterate 9 refine WX1 ?_
   first | refine ZP (zd (b := []) hns rfl Tryz.underlying9 rfl rfl) ?_ | refine ZS ?_
   iterate 19 refine WX1 ?_
   first | refine ZP (zd (b := []) hnf rfl Tryz.underlying9 rfl rfl) ?_ | refine ZS ?_
   refine WE ?_
   refine zb rfl ?_
   refine ZZ ?_
   refine WA ?_
   exact ze [] _ rfl rfl rfl (by decide) (ZNK rfl) (fun _ => .nil) ⟨congrArg (fun z => AV.c (I z)) (by simp [ntF, uP, uJ, uS, uU, uM, hks0, hno, hat, hkd, hko, hoo, ehnp, ehnj]), rfl⟩
  have ehnj : jb = [] := Decidable.not_not.1 (of_decide_eq_false hnj)
  cases ns
  rotate_left
  ·have ehns : ¬ sp = [] := of_decide_eq_true hns
   refine ZR ?_
   iterate 6 refine WX1 ?_
   first | refine ZP (zd (b := []) hnp rfl Tryz.underlying9 rfl rfl) ?_ | refine ZS ?_
   iterate 8 refine WX1 ?_
   first | refine ZP (zd (b := []) hnj rfl Tryz.underlying9 rfl rfl) ?_ | refine ZS ?_
   iterate 9 refine WX1 ?_
   first | refine ZP (zd (b := []) hns rfl Tryz.underlying9 rfl rfl) ?_ | refine ZS ?_
   iterate 19 refine WX1 ?_
   first | refine ZP (zd (b := []) hnf rfl Tryz.underlying9 rfl rfl) ?_ | refine ZS ?_
   refine WE ?_
   refine zb rfl ?_
   refine ZZ ?_
   refine WA ?_
   exact ze [] _ rfl rfl rfl (by decide) (ZNK rfl) (fun _ => .nil) ⟨congrArg (fun z => AV.c (I z)) (by simp [ntF, uP, uJ, uS, uU, uM, hks0, hno, hat, hkd, hko, hoo, ehnp, ehnj, ehns]), rfl⟩
  have ehns : sp = [] := Decidable.not_not.1 (of_decide_eq_false hns)
  by_cases hn : n = 0
  rotate_left
  ·refine ZR ?_
   iterate 6 refine WX1 ?_
   first | refine ZP (zd (b := []) hnp rfl Tryz.underlying9 rfl rfl) ?_ | refine ZS ?_
   iterate 8 refine WX1 ?_
   first | refine ZP (zd (b := []) hnj rfl Tryz.underlying9 rfl rfl) ?_ | refine ZS ?_
   iterate 9 refine WX1 ?_
   first | refine ZP (zd (b := []) hns rfl Tryz.underlying9 rfl rfl) ?_ | refine ZS ?_
   iterate 19 refine WX1 ?_
   first | refine ZP (zd (b := []) hnf rfl Tryz.underlying9 rfl rfl) ?_ | refine ZS ?_
   refine WE ?_
   refine zb rfl ?_
   refine ZZ ?_
   refine WA ?_
   exact ze [] _ rfl rfl rfl (by decide) (ZNK rfl) (fun _ => .nil) ⟨congrArg (fun z => AV.c (I z)) (by simp [ntF, uP, uJ, uS, uU, uM, hks0, hno, hat, hkd, hko, hoo, ehnp, ehnj, ehns, hn]), rfl⟩
  refine ZR ?_
  iterate 6 refine WX1 ?_
  first | refine ZP (zd (b := []) hnp rfl Tryz.underlying9 rfl rfl) ?_ | refine ZS ?_
  iterate 8 refine WX1 ?_
  first | refine ZP (zd (b := []) hnj rfl Tryz.underlying9 rfl rfl) ?_ | refine ZS ?_
  iterate 9 refine WX1 ?_
  first | refine ZP (zd (b := []) hns rfl Tryz.underlying9 rfl rfl) ?_ | refine ZS ?_
  iterate 19 refine WX1 ?_
  first | refine ZP (zd (b := []) hnf rfl Tryz.underlying9 rfl rfl) ?_ | refine ZS ?_
  refine WE ?_
  refine za rfl ?_
  refine ZZ ?_
  refine WA ?_
  exact ze [] _ rfl rfl rfl (by decide) (ZNK rfl) (fun _ => .nil) ⟨congrArg (fun z => AV.c (I z)) (by simp [ntF, uP, uJ, uS, uU, uM, hks0, hno, hat, hkd, hko, hoo, ehnp, ehnj, ehns, hn]), rfl⟩
end Go.Proofs.YtcdeonjdipcgpaaGreatDoor
