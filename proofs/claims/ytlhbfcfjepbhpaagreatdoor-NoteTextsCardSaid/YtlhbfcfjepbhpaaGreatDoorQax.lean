/- Keys, by value: the program's and the document's. -/
import Derived.Test.YtlhbfcfjepbhpaaGreatDoorQaw
set_option linter.unusedSimpArgs false
set_option linter.unusedVariables false
-- NEWM
namespace Go.Proofs.YtlhbfcfjepbhpaaGreatDoor
open Go Go.RowKit
set_option maxRecDepth 100000
abbrev smallL : List UInt8 := [97, 98, 99, 100, 101, 102, 103, 104, 105, 106, 107, 108, 109, 110, 111, 112, 113, 114, 115, 116, 117, 118, 119, 120, 121, 122]
abbrev keyL : List UInt8 := [97, 98, 99, 100, 101, 102, 103, 104, 105, 106, 107, 108, 109, 110, 111, 112, 113, 114, 115, 116, 117, 118, 119, 120, 121, 122, 48, 49, 50, 51, 52, 53, 54, 55, 56, 57, 45, 95]
def keyB (s : List UInt8) : Bool := match s with
 | [] => false
 | b :: _ => decide (s.length ≤ 40) && smallL.contains b && decide (trB keyL s = [])
theorem zV2 (b : UInt8) (r : List UInt8) : keyB (b :: r) = (decide ((b :: r).length ≤ 40) && smallL.contains b && decide (trB keyL (b :: r) = [])) := rfl
theorem zZ {P : Program} {N : Nat} {E : Env} {F : Fm} {H : List OB} {o : Oper} {t yt : TypeId} {x y : Operand} {a b : List UInt8} {q : Bool} (h : decide (a ≠ b) = q) (ho : o.op = .binOp .neq t x y yt) (ht : P.underlying t = some .string) (hx : ev F x = some (.c (T a))) (hy : ev F y = some (.c (T b))) : Rd P N E o F H (.c (B q)) := h ▸ rd_neqs ho ht hx hy
theorem iskey_v (s : List UInt8) (hl : s.length ≤ 1000000000) : ACalls Tryz.prog 125 [.c (T s)] [] fun u H => u = .c (B (keyB s)) ∧ H = [] := by
 refine zg (N := 21) Tryz.func125 rfl rfl (by simp) fun E hE => ?_
 cases s with
 | nil =>
  repeat' (first
   | (with_reducible refine zC ?_) | (with_reducible refine zA ?_) | (with_reducible refine zE ?_) | (with_reducible refine zI ?_) | (with_reducible refine zG ?_) | (with_reducible refine zJ ?_) | (with_reducible refine zH rfl ?_) | (with_reducible refine zF ?_) | (with_reducible refine zq ?_) | (with_reducible refine zj ?_) | (with_reducible refine zD ?_) | (with_reducible refine zt ?_)
   | refine zb rfl ?_ | refine za rfl ?_ | refine zr rfl (by assumption) ?_ | refine zo rfl (by assumption) ?_ | refine zw rfl (fun _ => ?_) (fun _ => ?_) | refine zn rfl (fun _ => ?_) (fun _ => ?_)
   | (refine zd (id := 1) ?_
      refine WX1 ?_
      refine ZA (zZ (b := []) (decide_eq_false (fun h => h rfl)) rfl Tryz.underlying9 rfl rfl) ?_
      refine WO ?_
      first | refine ZS ?_ | (refine G1 rfl ?_; refine zb3 rfl rfl (by decide) ZFALSE ?_) | skip
      refine WO ?_
      first | refine ZS ?_ | (refine G1 rfl ?_; refine zb3 rfl rfl (by decide) ZFALSE ?_) | skip
      refine WE ?_)
   | (refine zd ?_; refine WE ?_))
  exact zh [] _ rfl rfl rfl (by decide) (ZNK rfl) (fun _ => .nil) ⟨rfl, rfl⟩
 | cons b r =>
  have hne : decide ((b :: r) ≠ []) = true := decide_eq_true (fun h => by cases h)
  by_cases h40 : (b :: r).length ≤ 40
  ·have h40' : ((b :: r).length : Int) ≤ 40 := by omega
   by_cases hs : 0 ≤ idxB b smallL 0
   ·have hm := idxB_neg.1 hs
    obtain ⟨q, hq⟩ : ∃ q, decide (trB keyL (b :: r) = []) = q := ⟨_, rfl⟩
    repeat' (first
     | (with_reducible refine zC ?_) | (with_reducible refine zA ?_) | (with_reducible refine zE ?_) | (with_reducible refine zI ?_) | (with_reducible refine zG ?_) | (with_reducible refine zJ ?_) | (with_reducible refine zH rfl ?_) | (with_reducible refine zF ?_) | (with_reducible refine zq ?_) | (with_reducible refine zj ?_) | (with_reducible refine zD ?_) | (with_reducible refine zt ?_)
     | refine zb rfl ?_ | refine za rfl ?_ | refine zr rfl (by assumption) ?_ | refine zo rfl (by assumption) ?_ | refine zw rfl (fun _ => ?_) (fun _ => ?_) | refine zn rfl (fun _ => ?_) (fun _ => ?_)
     | (refine zd (id := 1) ?_
        refine WX1 ?_
        refine ZA (zZ (b := []) hne rfl Tryz.underlying9 rfl rfl) ?_
        iterate 7 refine WX1 ?_
        first | refine ZP (zK1 (i := 0) rfl Tryz.underlying9 rfl rfl rfl rfl) ?_ | refine ZS ?_
        first | refine ZS ?_ | (refine G1 rfl ?_; refine zf rfl (zc false (fun _ => sib_v smallL b) rfl .fn rfl (by decide) (by kernel_rfl) rfl (fun _ => C0 rfl) (by simp)) ?_; rintro _ _ ⟨_, _, _, ⟨rfl, rfl⟩, hF, hH⟩; (refine NST hF hH ?_; clear hF hH; rintro rfl rfl)) | skip
        refine WO ?_
        first | refine ZS ?_ | (refine G1 rfl ?_; refine zf rfl (zc false (fun _ => zM2 keyL (b :: r) (by decide) (by decide) hl) rfl .fn rfl (by decide) (by kernel_rfl) rfl (fun _ => C0 rfl) (by simp)) ?_; rintro _ _ ⟨_, _, _, ⟨rfl, rfl⟩, hF, hH⟩; (refine NST hF hH ?_; clear hF hH; rintro rfl rfl)) | skip
        first | refine ZP (zO (b := []) hq rfl Tryz.underlying9 rfl rfl) ?_ | refine ZS ?_
        refine WE ?_)
     | (refine zd ?_; refine WE ?_))
    exact zh [] _ rfl rfl rfl (by decide) (ZNK rfl) (fun _ => .nil) ⟨congrArg (fun z => AV.c (B z)) (by rw [zV2, hq, decide_eq_true h40, List.contains_iff_mem.2 hm]; rfl), rfl⟩
   ·have hm : smallL.contains b = false := by
     rw [Bool.eq_false_iff]
     exact fun h => hs (idxB_neg.2 (List.contains_iff_mem.1 h))
    repeat' (first
     | (with_reducible refine zC ?_) | (with_reducible refine zA ?_) | (with_reducible refine zE ?_) | (with_reducible refine zI ?_) | (with_reducible refine zG ?_) | (with_reducible refine zJ ?_) | (with_reducible refine zH rfl ?_) | (with_reducible refine zF ?_) | (with_reducible refine zq ?_) | (with_reducible refine zj ?_) | (with_reducible refine zD ?_) | (with_reducible refine zt ?_)
     | refine zb rfl ?_ | refine za rfl ?_ | refine zr rfl (by assumption) ?_ | refine zo rfl (by assumption) ?_ | refine zw rfl (fun _ => ?_) (fun _ => ?_) | refine zn rfl (fun _ => ?_) (fun _ => ?_)
     | (refine zd (id := 1) ?_
        refine WX1 ?_
        refine ZA (zZ (b := []) hne rfl Tryz.underlying9 rfl rfl) ?_
        iterate 7 refine WX1 ?_
        first | refine ZP (zK1 (i := 0) rfl Tryz.underlying9 rfl rfl rfl rfl) ?_ | refine ZS ?_
        first | refine ZS ?_ | (refine G1 rfl ?_; refine zf rfl (zc false (fun _ => sib_v smallL b) rfl .fn rfl (by decide) (by kernel_rfl) rfl (fun _ => C0 rfl) (by simp)) ?_; rintro _ _ ⟨_, _, _, ⟨rfl, rfl⟩, hF, hH⟩; (refine NST hF hH ?_; clear hF hH; rintro rfl rfl)) | skip
        refine WO ?_
        first | refine ZS ?_ | (refine G1 rfl ?_; refine zf rfl (zc false (fun _ => zM2 keyL (b :: r) (by decide) (by decide) hl) rfl .fn rfl (by decide) (by kernel_rfl) rfl (fun _ => C0 rfl) (by simp)) ?_; rintro _ _ ⟨_, _, _, ⟨rfl, rfl⟩, hF, hH⟩; (refine NST hF hH ?_; clear hF hH; rintro rfl rfl)) | skip
        refine WE ?_)
     | (refine zd ?_; refine WE ?_))
    exact zh [] _ rfl rfl rfl (by decide) (ZNK rfl) (fun _ => .nil) ⟨congrArg (fun z => AV.c (B z)) (by rw [zV2, hm]; simp), rfl⟩
  ·have h40' : ¬ ((b :: r).length : Int) ≤ 40 := by omega
   repeat' (first
    | (with_reducible refine zC ?_) | (with_reducible refine zA ?_) | (with_reducible refine zE ?_) | (with_reducible refine zI ?_) | (with_reducible refine zG ?_) | (with_reducible refine zJ ?_) | (with_reducible refine zH rfl ?_) | (with_reducible refine zF ?_) | (with_reducible refine zq ?_) | (with_reducible refine zj ?_) | (with_reducible refine zD ?_) | (with_reducible refine zt ?_)
    | refine zb rfl ?_ | refine za rfl ?_ | refine zr rfl (by assumption) ?_ | refine zo rfl (by assumption) ?_ | refine zw rfl (fun _ => ?_) (fun _ => ?_) | refine zn rfl (fun _ => ?_) (fun _ => ?_)
    | (refine zd (id := 1) ?_
       refine WX1 ?_
       refine ZA (zZ (b := []) hne rfl Tryz.underlying9 rfl rfl) ?_
       refine WO ?_
       first | refine ZS ?_ | (refine G1 rfl ?_; refine zf rfl (zc false (fun _ => sib_v smallL b) rfl .fn rfl (by decide) (by kernel_rfl) rfl (fun _ => C0 rfl) (by simp)) ?_; rintro _ _ ⟨_, _, _, ⟨rfl, rfl⟩, hF, hH⟩; (refine NST hF hH ?_; clear hF hH; rintro rfl rfl)) | skip
       refine WO ?_
       first | refine ZS ?_ | (refine G1 rfl ?_; refine zf rfl (zc false (fun _ => zM2 keyL (b :: r) (by decide) (by decide) hl) rfl .fn rfl (by decide) (by kernel_rfl) rfl (fun _ => C0 rfl) (by simp)) ?_; rintro _ _ ⟨_, _, _, ⟨rfl, rfl⟩, hF, hH⟩; (refine NST hF hH ?_; clear hF hH; rintro rfl rfl)) | skip
       refine WE ?_)
    | (refine zd ?_; refine WE ?_))
   exact zh [] _ rfl rfl rfl (by decide) (ZNK rfl) (fun _ => .nil) ⟨congrArg (fun z => AV.c (B z)) (by rw [zV2, decide_eq_false h40]; rfl), rfl⟩
theorem in1_v (n lo hi : Int) : ACalls Tryz.prog 150 [.c (I n), .c (I lo), .c (I hi)] [] fun u H => u = .c (B (!outB n lo hi)) ∧ H = [] := by
 refine zg (N := 15) Tryz.func150 rfl rfl (by simp) fun E hE => ?_
 by_cases h1 : lo ≤ n
 ·by_cases h2 : n ≤ hi
  ·repeat' (first
    | (with_reducible refine zC ?_) | (with_reducible refine zA ?_) | (with_reducible refine zE ?_) | (with_reducible refine zI ?_) | (with_reducible refine zG ?_) | (with_reducible refine zJ ?_) | (with_reducible refine zH rfl ?_) | (with_reducible refine zF ?_) | (with_reducible refine zq ?_) | (with_reducible refine zj ?_) | (with_reducible refine zD ?_) | (with_reducible refine zt ?_)
    | refine zb rfl ?_ | refine za rfl ?_ | refine zr rfl (by assumption) ?_ | refine zo rfl (by assumption) ?_ | refine zw rfl (fun _ => ?_) (fun _ => ?_) | refine zn rfl (fun _ => ?_) (fun _ => ?_)
    | (refine zd ?_; refine WE ?_))
   exact zh [] _ rfl rfl rfl (by decide) (ZNK rfl) (fun _ => .nil) ⟨congrArg (fun z => AV.c (B z)) (by unfold outB; rw [decide_eq_false (by omega), decide_eq_false (by omega)]; rfl), rfl⟩
  ·repeat' (first
    | (with_reducible refine zC ?_) | (with_reducible refine zA ?_) | (with_reducible refine zE ?_) | (with_reducible refine zI ?_) | (with_reducible refine zG ?_) | (with_reducible refine zJ ?_) | (with_reducible refine zH rfl ?_) | (with_reducible refine zF ?_) | (with_reducible refine zq ?_) | (with_reducible refine zj ?_) | (with_reducible refine zD ?_) | (with_reducible refine zt ?_)
    | refine zb rfl ?_ | refine za rfl ?_ | refine zr rfl (by assumption) ?_ | refine zo rfl (by assumption) ?_ | refine zw rfl (fun _ => ?_) (fun _ => ?_) | refine zn rfl (fun _ => ?_) (fun _ => ?_)
    | (refine zd ?_; refine WE ?_))
   exact zh [] _ rfl rfl rfl (by decide) (ZNK rfl) (fun _ => .nil) ⟨congrArg (fun z => AV.c (B z)) (by unfold outB; rw [decide_eq_true (show hi < n by omega), Bool.or_true]; rfl), rfl⟩
 ·repeat' (first
   | (with_reducible refine zC ?_) | (with_reducible refine zA ?_) | (with_reducible refine zE ?_) | (with_reducible refine zI ?_) | (with_reducible refine zG ?_) | (with_reducible refine zJ ?_) | (with_reducible refine zH rfl ?_) | (with_reducible refine zF ?_) | (with_reducible refine zq ?_) | (with_reducible refine zj ?_) | (with_reducible refine zD ?_) | (with_reducible refine zt ?_)
   | refine zb rfl ?_ | refine za rfl ?_ | refine zr rfl (by assumption) ?_ | refine zo rfl (by assumption) ?_ | refine zw rfl (fun _ => ?_) (fun _ => ?_) | refine zn rfl (fun _ => ?_) (fun _ => ?_)
   | (refine zd ?_; refine WE ?_))
  exact zh [] _ rfl rfl rfl (by decide) (ZNK rfl) (fun _ => .nil) ⟨congrArg (fun z => AV.c (B z)) (by unfold outB; rw [decide_eq_true (show n < lo by omega)]; rfl), rfl⟩
theorem in2_v (n lo hi : Int) : ACalls Tryz.prog 111 [.c (I n), .c (I lo), .c (I hi)] [] fun u H => u = .c (B (!outB n lo hi)) ∧ H = [] := by
 refine zg (N := 15) Tryz.func111 rfl rfl (by simp) fun E hE => ?_
 by_cases h1 : lo ≤ n
 ·by_cases h2 : n ≤ hi
  ·repeat' (first
    | (with_reducible refine zC ?_) | (with_reducible refine zA ?_) | (with_reducible refine zE ?_) | (with_reducible refine zI ?_) | (with_reducible refine zG ?_) | (with_reducible refine zJ ?_) | (with_reducible refine zH rfl ?_) | (with_reducible refine zF ?_) | (with_reducible refine zq ?_) | (with_reducible refine zj ?_) | (with_reducible refine zD ?_) | (with_reducible refine zt ?_)
    | refine zb rfl ?_ | refine za rfl ?_ | refine zr rfl (by assumption) ?_ | refine zo rfl (by assumption) ?_ | refine zw rfl (fun _ => ?_) (fun _ => ?_) | refine zn rfl (fun _ => ?_) (fun _ => ?_)
    | (refine zd ?_; refine WE ?_))
   exact zh [] _ rfl rfl rfl (by decide) (ZNK rfl) (fun _ => .nil) ⟨congrArg (fun z => AV.c (B z)) (by unfold outB; rw [decide_eq_false (by omega), decide_eq_false (by omega)]; rfl), rfl⟩
  ·repeat' (first
    | (with_reducible refine zC ?_) | (with_reducible refine zA ?_) | (with_reducible refine zE ?_) | (with_reducible refine zI ?_) | (with_reducible refine zG ?_) | (with_reducible refine zJ ?_) | (with_reducible refine zH rfl ?_) | (with_reducible refine zF ?_) | (with_reducible refine zq ?_) | (with_reducible refine zj ?_) | (with_reducible refine zD ?_) | (with_reducible refine zt ?_)
    | refine zb rfl ?_ | refine za rfl ?_ | refine zr rfl (by assumption) ?_ | refine zo rfl (by assumption) ?_ | refine zw rfl (fun _ => ?_) (fun _ => ?_) | refine zn rfl (fun _ => ?_) (fun _ => ?_)
    | (refine zd ?_; refine WE ?_))
   exact zh [] _ rfl rfl rfl (by decide) (ZNK rfl) (fun _ => .nil) ⟨congrArg (fun z => AV.c (B z)) (by unfold outB; rw [decide_eq_true (show hi < n by omega), Bool.or_true]; rfl), rfl⟩
 ·repeat' (first
   | (with_reducible refine zC ?_) | (with_reducible refine zA ?_) | (with_reducible refine zE ?_) | (with_reducible refine zI ?_) | (with_reducible refine zG ?_) | (with_reducible refine zJ ?_) | (with_reducible refine zH rfl ?_) | (with_reducible refine zF ?_) | (with_reducible refine zq ?_) | (with_reducible refine zj ?_) | (with_reducible refine zD ?_) | (with_reducible refine zt ?_)
   | refine zb rfl ?_ | refine za rfl ?_ | refine zr rfl (by assumption) ?_ | refine zo rfl (by assumption) ?_ | refine zw rfl (fun _ => ?_) (fun _ => ?_) | refine zn rfl (fun _ => ?_) (fun _ => ?_)
   | (refine zd ?_; refine WE ?_))
  exact zh [] _ rfl rfl rfl (by decide) (ZNK rfl) (fun _ => .nil) ⟨congrArg (fun z => AV.c (B z)) (by unfold outB; rw [decide_eq_true (show n < lo by omega)]; rfl), rfl⟩
theorem moment_v (n : Int) : ACalls Tryz.prog 103 [.c (I n)] [] fun u H => u = .c (B (moB n)) ∧ H = [] := by
 refine zg (N := 5) Tryz.func103 rfl rfl (by simp) fun E hE => ?_
 repeat' (first
  | (with_reducible refine zC ?_) | (with_reducible refine zA ?_) | (with_reducible refine zE ?_) | (with_reducible refine zI ?_) | (with_reducible refine zG ?_) | (with_reducible refine zJ ?_) | (with_reducible refine zH rfl ?_) | (with_reducible refine zF ?_) | (with_reducible refine zq ?_) | (with_reducible refine zj ?_) | (with_reducible refine zD ?_) | (with_reducible refine zt ?_)
  | refine zb rfl ?_ | refine za rfl ?_ | refine zr rfl (by assumption) ?_ | refine zo rfl (by assumption) ?_ | refine zw rfl (fun _ => ?_) (fun _ => ?_) | refine zn rfl (fun _ => ?_) (fun _ => ?_)
  | (refine zd (id := 1) ?_
     refine WO ?_
     refine zf rfl (zc false (fun _ => in1_v _ _ _) rfl .fn rfl (by decide) (by kernel_rfl) rfl (fun _ => C0 rfl) (by simp)) ?_
     rintro _ _ ⟨_, _, _, ⟨rfl, rfl⟩, hF, hH⟩
     (refine NST hF hH ?_; clear hF hH; rintro rfl rfl)
     refine WE ?_)
  | (refine zd ?_; refine WE ?_))
 exact zh [] _ rfl rfl rfl (by decide) (ZNK rfl) (fun _ => .nil) ⟨rfl, rfl⟩
theorem ix1_v (s : List UInt8) (c : UInt8) : ACalls Tryz.prog 232 [.c (T s), .c (T [c])] [] fun u H => u = .c (I (idxB c s 0)) ∧ H = [] := by
 refine zg (N := 143) Tryz.func232 rfl rfl (by simp) fun E hE => ?_
 have h1 : (([c] : List UInt8).length : Int) = 1 := rfl
 by_cases hq : [c] = s
 ·refine WA ?_
  refine WA ?_
  refine ZR ?_
  iterate 5 refine WX1 ?_
  first | refine ZP (zO (a := [c]) (b := s) (decide_eq_true hq) rfl Tryz.underlying9 rfl rfl) ?_ | refine ZS ?_
  refine WE ?_
  refine zb rfl ?_
  refine ZZ ?_
  refine WA ?_
  exact zh [] _ rfl rfl rfl (by decide) (ZNK rfl) (fun _ => .nil) ⟨by subst hq; simp [idxB], rfl⟩
 ·refine WA ?_
  refine WA ?_
  refine ZR ?_
  iterate 5 refine WX1 ?_
  first | refine ZP (zO (a := [c]) (b := s) (decide_eq_false hq) rfl Tryz.underlying9 rfl rfl) ?_ | refine ZS ?_
  refine WE ?_
  refine za rfl ?_
  refine ZZ ?_
  refine WA ?_
  refine zb rfl ?_
  refine ZZ ?_
  refine ZR ?_
  iterate 2 refine WX1 ?_
  refine ZA (zK1 (i := 0) rfl Tryz.underlying9 rfl rfl rfl rfl) ?_
  refine zf rfl (zc false (fun _ => isl_v s c) rfl .fn rfl (by decide) (by kernel_rfl) rfl (fun _ => C0 rfl) (by simp)) ?_
  rintro _ _ ⟨_, _, _, ⟨rfl, rfl⟩, hF, hH⟩
  (refine NST hF hH ?_; clear hF hH; rintro rfl rfl)
  refine WE ?_
  exact zh [] _ rfl rfl rfl (by decide) (ZNK rfl) (fun _ => .nil) ⟨rfl, rfl⟩
theorem sindex1_v (s : List UInt8) (c : UInt8) : ACalls Tryz.prog 222 [.c (T s), .c (T [c])] [] fun u H => u = .c (I (idxB c s 0)) ∧ H = [] := by
 refine zg (N := 8) Tryz.func222 rfl rfl (by simp) fun E hE => ?_
 repeat' (first
  | (with_reducible refine zC ?_) | (with_reducible refine zA ?_) | (with_reducible refine zE ?_) | (with_reducible refine zI ?_) | (with_reducible refine zG ?_) | (with_reducible refine zJ ?_) | (with_reducible refine zH rfl ?_) | (with_reducible refine zF ?_) | (with_reducible refine zq ?_) | (with_reducible refine zj ?_) | (with_reducible refine zD ?_) | (with_reducible refine zt ?_)
  | refine zb rfl ?_ | refine za rfl ?_ | refine zr rfl (by assumption) ?_ | refine zo rfl (by assumption) ?_ | refine zw rfl (fun _ => ?_) (fun _ => ?_) | refine zn rfl (fun _ => ?_) (fun _ => ?_)
  | (refine zd (id := 1) ?_
     refine WO ?_
     refine zf rfl (zc false (fun _ => ix1_v s c) rfl .fn rfl (by decide) (by kernel_rfl) rfl (fun _ => C0 rfl) (by simp)) ?_
     rintro _ _ ⟨_, _, _, ⟨rfl, rfl⟩, hF, hH⟩
     (refine NST hF hH ?_; clear hF hH; rintro rfl rfl)
     refine WE ?_)
  | (refine zd ?_; refine WE ?_))
 exact zh [] _ rfl rfl rfl (by decide) (ZNK rfl) (fun _ => .nil) ⟨rfl, rfl⟩
theorem contains1_v (s : List UInt8) (c : UInt8) : ACalls Tryz.prog 151 [.c (T s), .c (T [c])] [] fun u H => u = .c (B (s.contains c)) ∧ H = [] := by
 refine zg (N := 9) Tryz.func151 rfl rfl (by simp) fun E hE => ?_
 by_cases hs : 0 ≤ idxB c s 0
 ·repeat' (first
   | (with_reducible refine zC ?_) | (with_reducible refine zA ?_) | (with_reducible refine zE ?_) | (with_reducible refine zI ?_) | (with_reducible refine zG ?_) | (with_reducible refine zJ ?_) | (with_reducible refine zH rfl ?_) | (with_reducible refine zF ?_) | (with_reducible refine zq ?_) | (with_reducible refine zj ?_) | (with_reducible refine zD ?_) | (with_reducible refine zt ?_)
   | refine zb rfl ?_ | refine za rfl ?_ | refine zr rfl (by assumption) ?_ | refine zo rfl (by assumption) ?_ | refine zw rfl (fun _ => ?_) (fun _ => ?_) | refine zn rfl (fun _ => ?_) (fun _ => ?_)
   | (refine zd (id := 1) ?_
      refine WO ?_
      refine zf rfl (zc false (fun _ => sindex1_v s c) rfl .fn rfl (by decide) (by kernel_rfl) rfl (fun _ => C0 rfl) (by simp)) ?_
      rintro _ _ ⟨_, _, _, ⟨rfl, rfl⟩, hF, hH⟩
      (refine NST hF hH ?_; clear hF hH; rintro rfl rfl)
      refine WE ?_)
   | (refine zd ?_; refine WE ?_))
  exact zh [] _ rfl rfl rfl (by decide) (ZNK rfl) (fun _ => .nil) ⟨congrArg (fun z => AV.c (B z)) (List.contains_iff_mem.2 (idxB_neg.1 hs)).symm, rfl⟩
 ·repeat' (first
   | (with_reducible refine zC ?_) | (with_reducible refine zA ?_) | (with_reducible refine zE ?_) | (with_reducible refine zI ?_) | (with_reducible refine zG ?_) | (with_reducible refine zJ ?_) | (with_reducible refine zH rfl ?_) | (with_reducible refine zF ?_) | (with_reducible refine zq ?_) | (with_reducible refine zj ?_) | (with_reducible refine zD ?_) | (with_reducible refine zt ?_)
   | refine zb rfl ?_ | refine za rfl ?_ | refine zr rfl (by assumption) ?_ | refine zo rfl (by assumption) ?_ | refine zw rfl (fun _ => ?_) (fun _ => ?_) | refine zn rfl (fun _ => ?_) (fun _ => ?_)
   | (refine zd (id := 1) ?_
      refine WO ?_
      refine zf rfl (zc false (fun _ => sindex1_v s c) rfl .fn rfl (by decide) (by kernel_rfl) rfl (fun _ => C0 rfl) (by simp)) ?_
      rintro _ _ ⟨_, _, _, ⟨rfl, rfl⟩, hF, hH⟩
      (refine NST hF hH ?_; clear hF hH; rintro rfl rfl)
      refine WE ?_)
   | (refine zd ?_; refine WE ?_))
  refine zh [] _ rfl rfl rfl (by decide) (ZNK rfl) (fun _ => .nil) ⟨congrArg (fun z => AV.c (B z)) ?_, rfl⟩
  exact (Bool.eq_false_iff.2 fun h => hs (idxB_neg.2 (List.contains_iff_mem.1 h))).symm
theorem rkey_v (s : List UInt8) (hl : s.length ≤ 1000000000) : ACalls Tryz.prog 92 [.c (T s)] [] fun u H => u = .c (B (keyB s)) ∧ H = [] := by
 refine zg (N := 16) Tryz.func92 rfl rfl (by simp) fun E hE => ?_
 cases s with
 | nil =>
  have e0 : (!outB (([] : List UInt8).length : Int) 1 40) = false := by decide
  repeat' (first
   | (with_reducible refine zC ?_) | (with_reducible refine zA ?_) | (with_reducible refine zE ?_) | (with_reducible refine zI ?_) | (with_reducible refine zG ?_) | (with_reducible refine zJ ?_) | (with_reducible refine zH rfl ?_) | (with_reducible refine zF ?_) | (with_reducible refine zq ?_) | (with_reducible refine zj ?_) | (with_reducible refine zD ?_) | (with_reducible refine zt ?_)
   | refine zb rfl ?_ | refine za rfl ?_ | refine zr rfl (by assumption) ?_ | refine zo rfl (by assumption) ?_ | refine zw rfl (fun _ => ?_) (fun _ => ?_) | refine zn rfl (fun _ => ?_) (fun _ => ?_)
   | (refine zd (id := 1) ?_
      refine WO ?_
      refine zf rfl (zc false (fun _ => in1_v _ _ _) rfl .fn rfl (by decide) (by kernel_rfl) rfl (fun _ => C0 rfl) (by simp)) ?_
      rintro _ _ ⟨_, _, _, ⟨rfl, rfl⟩, hF, hH⟩
      rw [e0] at hF
      (refine NST hF hH ?_; clear hF hH; rintro rfl rfl)
      refine WO ?_
      first | refine ZS ?_ | (refine G1 rfl ?_; refine zb3 rfl rfl (by decide) ZFALSE ?_) | skip
      refine WO ?_
      first | refine ZS ?_ | (refine G1 rfl ?_; refine zb3 rfl rfl (by decide) ZFALSE ?_) | skip
      refine WE ?_)
   | (refine zd ?_; refine WE ?_))
  exact zh [] _ rfl rfl rfl (by decide) (ZNK rfl) (fun _ => .nil) ⟨rfl, rfl⟩
 | cons b r =>
  obtain ⟨q1, hq1⟩ : ∃ q, (!outB ((b :: r).length : Int) 1 40) = q := ⟨_, rfl⟩
  have e1 : decide ((b :: r).length ≤ 40) = q1 := by
   rw [← hq1]
   unfold outB
   rw [decide_eq_false (show ¬ ((b :: r).length : Int) < 1 by simp only [List.length_cons]; omega), Bool.false_or]
   by_cases h : (b :: r).length ≤ 40
   ·rw [decide_eq_true h, decide_eq_false (by omega)]; rfl
   ·rw [decide_eq_false h, decide_eq_true (by omega)]; rfl
  obtain ⟨q2, hq2⟩ : ∃ q, smallL.contains b = q := ⟨_, rfl⟩
  obtain ⟨q, hq⟩ : ∃ q, decide (trB keyL (b :: r) = []) = q := ⟨_, rfl⟩
  rw [zV2, e1, hq2, hq]
  cases q1
  ·repeat' (first
    | (with_reducible refine zC ?_) | (with_reducible refine zA ?_) | (with_reducible refine zE ?_) | (with_reducible refine zI ?_) | (with_reducible refine zG ?_) | (with_reducible refine zJ ?_) | (with_reducible refine zH rfl ?_) | (with_reducible refine zF ?_) | (with_reducible refine zq ?_) | (with_reducible refine zj ?_) | (with_reducible refine zD ?_) | (with_reducible refine zt ?_)
    | refine zb rfl ?_ | refine za rfl ?_ | refine zr rfl (by assumption) ?_ | refine zo rfl (by assumption) ?_ | refine zw rfl (fun _ => ?_) (fun _ => ?_) | refine zn rfl (fun _ => ?_) (fun _ => ?_)
    | (refine zd (id := 1) ?_
       refine WO ?_
       refine zf rfl (zc false (fun _ => in1_v _ _ _) rfl .fn rfl (by decide) (by kernel_rfl) rfl (fun _ => C0 rfl) (by simp)) ?_
       rintro _ _ ⟨_, _, _, ⟨rfl, rfl⟩, hF, hH⟩
       rw [hq1] at hF
       (refine NST hF hH ?_; clear hF hH; rintro rfl rfl)
       refine WO ?_
       first | refine ZS ?_ | (refine G1 rfl ?_; refine zb3 rfl rfl (by decide) ZFALSE ?_) | skip
       refine WO ?_
       first | refine ZS ?_ | (refine G1 rfl ?_; refine zb3 rfl rfl (by decide) ZFALSE ?_) | skip
       refine WE ?_)
    | (refine zd ?_; refine WE ?_))
   exact zh [] _ rfl rfl rfl (by decide) (ZNK rfl) (fun _ => .nil) ⟨rfl, rfl⟩
  cases q2
  ·repeat' (first
    | (with_reducible refine zC ?_) | (with_reducible refine zA ?_) | (with_reducible refine zE ?_) | (with_reducible refine zI ?_) | (with_reducible refine zG ?_) | (with_reducible refine zJ ?_) | (with_reducible refine zH rfl ?_) | (with_reducible refine zF ?_) | (with_reducible refine zq ?_) | (with_reducible refine zj ?_) | (with_reducible refine zD ?_) | (with_reducible refine zt ?_)
    | refine zb rfl ?_ | refine za rfl ?_ | refine zr rfl (by assumption) ?_ | refine zo rfl (by assumption) ?_ | refine zw rfl (fun _ => ?_) (fun _ => ?_) | refine zn rfl (fun _ => ?_) (fun _ => ?_)
    | (refine zd (id := 1) ?_
       refine WO ?_
       refine zf rfl (zc false (fun _ => in1_v _ _ _) rfl .fn rfl (by decide) (by kernel_rfl) rfl (fun _ => C0 rfl) (by simp)) ?_
       rintro _ _ ⟨_, _, _, ⟨rfl, rfl⟩, hF, hH⟩
       rw [hq1] at hF
       (refine NST hF hH ?_; clear hF hH; rintro rfl rfl)
       iterate 2 refine WX1 ?_
       first | refine ZP (zr1 (i := 0) (j := 1) rfl Tryz.underlying9 rfl (.inl ⟨rfl, rfl⟩) (.inr ⟨_, _, _, rfl, rfl, rfl⟩) (by first | (simp; done) | (simp; omega)) (by first | (simp; done) | (simp; omega))) ?_ | refine ZS ?_
       first | refine ZS ?_ | (refine G1 rfl ?_; refine zf rfl (zc false (fun _ => contains1_v smallL b) rfl .fn rfl (by decide) (by kernel_rfl) rfl (fun _ => C0 rfl) (by simp)) ?_; rintro _ _ ⟨_, _, _, ⟨rfl, rfl⟩, hF, hH⟩; rw [hq2] at hF; (refine NST hF hH ?_; clear hF hH; rintro rfl rfl)) | skip
       refine WO ?_
       first | refine ZS ?_ | (refine G1 rfl ?_; refine zb3 rfl rfl (by decide) ZFALSE ?_) | skip
       refine WE ?_)
    | (refine zd ?_; refine WE ?_))
   exact zh [] _ rfl rfl rfl (by decide) (ZNK rfl) (fun _ => .nil) ⟨rfl, rfl⟩
  ·repeat' (first
    | (with_reducible refine zC ?_) | (with_reducible refine zA ?_) | (with_reducible refine zE ?_) | (with_reducible refine zI ?_) | (with_reducible refine zG ?_) | (with_reducible refine zJ ?_) | (with_reducible refine zH rfl ?_) | (with_reducible refine zF ?_) | (with_reducible refine zq ?_) | (with_reducible refine zj ?_) | (with_reducible refine zD ?_) | (with_reducible refine zt ?_)
    | refine zb rfl ?_ | refine za rfl ?_ | refine zr rfl (by assumption) ?_ | refine zo rfl (by assumption) ?_ | refine zw rfl (fun _ => ?_) (fun _ => ?_) | refine zn rfl (fun _ => ?_) (fun _ => ?_)
    | (refine zd (id := 1) ?_
       refine WO ?_
       refine zf rfl (zc false (fun _ => in1_v _ _ _) rfl .fn rfl (by decide) (by kernel_rfl) rfl (fun _ => C0 rfl) (by simp)) ?_
       rintro _ _ ⟨_, _, _, ⟨rfl, rfl⟩, hF, hH⟩
       rw [hq1] at hF
       (refine NST hF hH ?_; clear hF hH; rintro rfl rfl)
       iterate 2 refine WX1 ?_
       first | refine ZP (zr1 (i := 0) (j := 1) rfl Tryz.underlying9 rfl (.inl ⟨rfl, rfl⟩) (.inr ⟨_, _, _, rfl, rfl, rfl⟩) (by first | (simp; done) | (simp; omega)) (by first | (simp; done) | (simp; omega))) ?_ | refine ZS ?_
       first | refine ZS ?_ | (refine G1 rfl ?_; refine zf rfl (zc false (fun _ => contains1_v smallL b) rfl .fn rfl (by decide) (by kernel_rfl) rfl (fun _ => C0 rfl) (by simp)) ?_; rintro _ _ ⟨_, _, _, ⟨rfl, rfl⟩, hF, hH⟩; rw [hq2] at hF; (refine NST hF hH ?_; clear hF hH; rintro rfl rfl)) | skip
       refine WO ?_
       first | refine ZS ?_ | (refine G1 rfl ?_; refine zf rfl (zc false (fun _ => zM2 keyL (b :: r) (by decide) (by decide) hl) rfl .fn rfl (by decide) (by kernel_rfl) rfl (fun _ => C0 rfl) (by simp)) ?_; rintro _ _ ⟨_, _, _, ⟨rfl, rfl⟩, hF, hH⟩; (refine NST hF hH ?_; clear hF hH; rintro rfl rfl)) | skip
       first | refine ZP (zO (b := []) hq rfl Tryz.underlying9 rfl rfl) ?_ | refine ZS ?_
       refine WE ?_)
    | (refine zd ?_; refine WE ?_))
   exact zh [] _ rfl rfl rfl (by decide) (ZNK rfl) (fun _ => .nil) ⟨rfl, rfl⟩
end Go.Proofs.YtlhbfcfjepbhpaaGreatDoor
