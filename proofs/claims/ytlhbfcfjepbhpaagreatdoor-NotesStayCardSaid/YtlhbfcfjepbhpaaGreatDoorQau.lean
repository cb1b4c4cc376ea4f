/- Keys, moments and bounds, by value: the program's and the document's. -/
import Derived.Test.YtlhbfcfjepbhpaaGreatDoorQat
set_option linter.unusedSimpArgs false
set_option linter.unusedVariables false
-- NEWM
namespace Go.Proofs.YtlhbfcfjepbhpaaGreatDoor
open Go Go.RowKit
set_option maxRecDepth 100000
def trR (p : UInt8 → Bool) (s : List UInt8) : List UInt8 := (s.reverse.dropWhile p).reverse
abbrev trB (cut s : List UInt8) : List UInt8 := (trR (fun b => cut.contains b) s).dropWhile fun b => cut.contains b
theorem trR_snoc (p : UInt8 → Bool) (s : List UInt8) (b : UInt8) : trR p (s ++ [b]) = if p b = true then trR p s else s ++ [b] := by
 unfold trR
 rw [List.reverse_append, List.reverse_singleton, List.singleton_append, List.dropWhile_cons]
 split
 ·rfl
 ·rw [List.reverse_cons, List.reverse_reverse]
theorem trR_len (p : UInt8 → Bool) (s : List UInt8) : (trR p s).length ≤ s.length := by
 unfold trR
 rw [List.length_reverse]
 have := (List.dropWhile_suffix (l := s.reverse) p).length_le
 rwa [List.length_reverse] at this
theorem zu1 {P : Program} {N : Nat} {E : Env} {F : Fm} {H : List OB} {o : Oper} {t yt : TypeId} {x y : Operand} {a b : List UInt8} {q : Bool} (h : decide (a = b) = q) (ho : o.op = .binOp .eql t x y yt) (ht : P.underlying t = some .string) (hx : ev F x = some (.c (T a))) (hy : ev F y = some (.c (T b))) : Rd P N E o F H (.c (B q)) := h ▸ rd_eqls ho ht hx hy
theorem trimr_v (cut s : List UInt8) (hl : s.length ≤ 1000000000) : ACalls Tryz.prog 227 [.c (T s), .p 0 0 0] [.box (ascL cut)] fun u H => u = .c (T (trR (fun b => cut.contains b) s)) ∧ H = [.box (ascL cut)] := by
 refine zg (N := 22) Tryz.func227 rfl rfl (by simp) fun E hE => ?_
 refine WA ?_
 refine zC (fun m F H => ∃ r : List UInt8, r.length = m ∧ r.length ≤ 1000000000 ∧ trR (fun b => cut.contains b) r = trR (fun b => cut.contains b) s ∧ F = [(0, .c (T r)), (1, .p 0 0 0)] ∧ H = [.box (ascL cut)]) ?_ ?_
 ·refine zl [some 0] (fun _ => [(0, .c (T s)), (1, .p 0 0 0)]) (fun _ => [.box (ascL cut)]) (by decide) (ZNL hE) ZCF (fun _ => .box rfl (C0 (zf1 _)) .nil) (fun _ => ?_)
  exact ⟨_, s, rfl, hl, rfl, rfl, rfl⟩
 rintro m F H ⟨r, hm, hrl, hr, rfl, rfl⟩
 rcases List.eq_nil_or_concat r with rfl | ⟨r1, b, rfl⟩
 ·refine WA ?_
  refine zt rfl (by simp) ?_
  refine ZZ ?_
  refine WA ?_
  exact zf [some 0] [.box (ascL cut)] rfl rfl rfl (by decide) (ZNK rfl) (fun _ => .box rfl (C0 (zf1 _)) .nil) ⟨by rw [← hr]; rfl, rfl⟩
 rw [List.concat_eq_append] at *
 have hb : (r1 ++ [b])[r1.length]? = some b := by simp
 have hlen : ((r1 ++ [b]).length : Int) = (r1.length : Int) + 1 := by simp
 have hsn := trR_snoc (fun b => cut.contains b) r1 b
 have hlr : r1.length ≤ 1000000000 := by rw [List.length_append] at hrl; omega
 refine WA ?_
 refine zb rfl ?_
 obtain ⟨q, hq⟩ : ∃ q, cut.contains b = q := ⟨_, rfl⟩
 refine ZR ?_
 iterate 5 refine WX1 ?_
 refine ZA (zr3 (i := r1.length) rfl Tryz.underlying9 rfl rfl (by first | (simp; done) | (simp; omega)) hb) ?_
 refine zh rfl (zM1 [0] (fun _ => [.box (ascL cut)]) false (fun _ => aschas_v cut b) rfl .fn rfl (by decide) (by kernel_rfl) rfl (fun _ => .cons (.p rfl) (.cons (.c rfl) .nil)) (by decide) (fun _ => .box rfl (C0 (zf1 _)) .nil) (by simp)) ?_
 rintro F1 H1 ⟨_, _, _, _, ⟨rfl, rfl⟩, hF, hH⟩
 rw [hq] at hF
 (refine NSU hF hH ?_; clear hF hH; rintro rfl rfl)
 refine WE ?_
 cases q with
 | true =>
  rw [if_pos hq] at hsn
  refine za rfl ?_
  refine ZZ ?_
  refine ZR ?_
  iterate 4 refine WX1 ?_
  refine ZA (rd_slcs (i := 0) (j := r1.length) rfl Tryz.underlying9 rfl (.inl ⟨rfl, rfl⟩) (.inr ⟨_, _, _, rfl, rfl, by simp⟩) (by first | (simp; done) | (simp; omega)) (by first | (simp; done) | (simp; omega))) ?_
  refine WE ?_
  refine zl [some 0] (fun _ => [(0, .c (T r1)), (1, .p 0 0 0)]) (fun _ => [.box (ascL cut)]) (by decide) (ZNL hE) ZCF (fun _ => .box rfl (C0 (zf1 _)) .nil) (fun _ => ?_)
  exact ⟨_, by rw [← hm, List.length_append]; exact Nat.lt_succ_self _, r1, rfl, hlr, by rw [← hr, hsn], rfl, rfl⟩
 | false =>
  rw [if_neg (by rw [hq]; simp)] at hsn
  refine zb rfl ?_
  refine ZZ ?_
  refine WA ?_
  exact zf [some 0] [.box (ascL cut)] rfl rfl rfl (by decide) (ZNK rfl) (fun _ => .box rfl (C0 (zf1 _)) .nil) ⟨by rw [← hr, hsn], rfl⟩
theorem triml_v (cut s : List UInt8) (hl : s.length ≤ 1000000000) : ACalls Tryz.prog 226 [.c (T s), .p 0 0 0] [.box (ascL cut)] fun u H => u = .c (T (s.dropWhile fun b => cut.contains b)) ∧ H = [.box (ascL cut)] := by
 refine zg (N := 16) Tryz.func226 rfl rfl (by simp) fun E hE => ?_
 refine WA ?_
 refine zC (fun m F H => ∃ r : List UInt8, r.length = m ∧ r.length ≤ 1000000000 ∧ (r.dropWhile fun b => cut.contains b) = (s.dropWhile fun b => cut.contains b) ∧ F = [(0, .c (T r)), (1, .p 0 0 0)] ∧ H = [.box (ascL cut)]) ?_ ?_
 ·refine zl [some 0] (fun _ => [(0, .c (T s)), (1, .p 0 0 0)]) (fun _ => [.box (ascL cut)]) (by decide) (ZNL hE) ZCF (fun _ => .box rfl (C0 (zf1 _)) .nil) (fun _ => ?_)
  exact ⟨_, s, rfl, hl, rfl, rfl, rfl⟩
 rintro m F H ⟨r, hm, hrl, hr, rfl, rfl⟩
 cases r with
 | nil =>
  refine WA ?_
  refine zt rfl (by simp) ?_
  refine ZZ ?_
  refine WA ?_
  exact zf [some 0] [.box (ascL cut)] rfl rfl rfl (by decide) (ZNK rfl) (fun _ => .box rfl (C0 (zf1 _)) .nil) ⟨by rw [← hr]; rfl, rfl⟩
 | cons b r1 =>
 have hb : (b :: r1)[0]? = some b := rfl
 have hlr : r1.length ≤ 1000000000 := by rw [List.length_cons] at hrl; omega
 rw [List.dropWhile_cons] at hr
 obtain ⟨q, hq⟩ : ∃ q, cut.contains b = q := ⟨_, rfl⟩
 rw [hq] at hr
 refine WA ?_
 refine zw rfl (by first | (simp; done) | (simp; omega)) ?_
 refine ZR ?_
 iterate 2 refine WX1 ?_
 refine ZA (zr3 (i := 0) rfl Tryz.underlying9 rfl rfl (by first | (simp; done) | (simp; omega)) hb) ?_
 refine zh rfl (zM1 [0] (fun _ => [.box (ascL cut)]) false (fun _ => aschas_v cut b) rfl .fn rfl (by decide) (by kernel_rfl) rfl (fun _ => .cons (.p rfl) (.cons (.c rfl) .nil)) (by decide) (fun _ => .box rfl (C0 (zf1 _)) .nil) (by simp)) ?_
 rintro F1 H1 ⟨_, _, _, _, ⟨rfl, rfl⟩, hF, hH⟩
 rw [hq] at hF
 (refine NSU hF hH ?_; clear hF hH; rintro rfl rfl)
 refine WE ?_
 cases q with
 | true =>
  rw [if_pos rfl] at hr
  refine za rfl ?_
  refine ZZ ?_
  refine ZR ?_
  refine WX1 ?_
  refine ZA (rd_slcs (i := 1) (j := (r1.length + 1)) rfl Tryz.underlying9 rfl (.inr ⟨_, _, _, rfl, rfl, rfl⟩) (.inl ⟨rfl, rfl⟩) (by first | (simp; done) | (simp; omega)) (by first | (simp; done) | (simp; omega))) ?_
  refine WE ?_
  refine zl [some 0] (fun _ => [(0, .c (T r1)), (1, .p 0 0 0)]) (fun _ => [.box (ascL cut)]) (by decide) (ZNL hE) ZCF (fun _ => .box rfl (C0 (zf1 _)) .nil) (fun _ => ?_)
  exact ⟨_, by rw [← hm, List.length_cons]; exact Nat.lt_succ_self _, r1, rfl, hlr, hr, rfl, rfl⟩
 | false =>
  rw [if_neg (by simp)] at hr
  refine zb rfl ?_
  refine ZZ ?_
  refine WA ?_
  exact zf [some 0] [.box (ascL cut)] rfl rfl rfl (by decide) (ZNK rfl) (fun _ => .box rfl (C0 (zf1 _)) .nil) ⟨by rw [← hr], rfl⟩
theorem trim_v (cut s : List UInt8) (h8 : ∀ b ∈ cut, b < 128) (hc : 2 ≤ cut.length ∧ cut.length ≤ 1000000) (hl : s.length ≤ 1000000000) : ACalls Tryz.prog 152 [.c (T s), .c (T cut)] [] fun u H => u = .c (T (trB cut s)) ∧ H = [] := by
 have hcn : ¬ cut = [] := fun e => by rw [e] at hc; simp at hc
 refine zg (N := 43) Tryz.func152 rfl rfl (by simp) fun E hE => ?_
 by_cases hs : s = []
 ·subst hs
  refine WA ?_
  refine ZR ?_
  refine WX1 ?_
  refine ZA (zu1 (b := []) (decide_eq_true rfl) rfl Tryz.underlying9 rfl rfl) ?_
  iterate 2 refine WX1 ?_
  first | refine ZP (zu1 (b := []) (decide_eq_false hcn) rfl Tryz.underlying9 rfl rfl) ?_ | refine ZS ?_
  refine WE ?_
  refine zb rfl ?_
  refine WA ?_
  exact zf [] _ rfl rfl rfl (by decide) (ZNK rfl) (fun _ => .nil) ⟨rfl, rfl⟩
 refine WA ?_
 refine ZR ?_
 refine WX1 ?_
 refine ZA (zu1 (b := []) (decide_eq_false hs) rfl Tryz.underlying9 rfl rfl) ?_
 iterate 2 refine WX1 ?_
 first | refine ZP (zu1 (b := []) (decide_eq_false hcn) rfl Tryz.underlying9 rfl rfl) ?_ | refine ZS ?_
 refine WE ?_
 refine za rfl ?_
 have hc1 : ¬ (cut.length : Int) = 1 := by omega
 refine ZZ ?_
 refine WA ?_
 refine za rfl ?_
 refine ZZ ?_
 refine WR ?_
 refine zh rfl (zc false (fun _ => makeascii_v cut h8 (by omega)) rfl .fn rfl (by decide) (by kernel_rfl) rfl (fun _ => C0 rfl) (by simp)) ?_
 rintro _ _ ⟨_, _, _, ⟨rfl, rfl⟩, hF, hH⟩
 generalize hAA : ascL cut = AA at hF
 (refine NST hF hH ?_; clear hF hH; rintro rfl rfl)
 subst hAA
 iterate 3 refine WX1 ?_
 refine zh rfl (ef_alloc (z := .agg (List.replicate 256 (Value.bool false)).toArray) (vs := List.replicate 256 (.bool false)) rfl rfl (by decide) (by kernel_rfl) rfl (by decide +kernel)) ?_
 rintro _ _ ⟨rfl, rfl⟩
 rw [ascL_nil]
 refine zh rfl (zL3 (k := 256) (l' := ascL cut) rfl rfl rfl rfl rfl (by kernel_rfl) (zw1 cut) (by rw [zw1]; exact Nat.le_refl _) (ascL_one cut) (ascL_all _ cut) rfl) ?_
 rintro _ _ ⟨rfl, rfl⟩
 refine WE ?_
 refine WA ?_
 refine zb rfl ?_
 have hl2 := trR_len (fun b => cut.contains b) s
 refine WR ?_
 refine zh rfl (zM1 [0] (fun _ => [.box (ascL cut)]) false (fun _ => trimr_v cut s hl) rfl .fn rfl (by decide) (by kernel_rfl) rfl (fun _ => .cons (.c rfl) (.cons (.p rfl) .nil)) (by decide) (fun _ => .box rfl (C0 (zf1 _)) .nil) (by simp)) ?_
 rintro F1 H1 ⟨_, _, _, _, ⟨rfl, rfl⟩, hF, hH⟩
 (refine NSU hF hH ?_; clear hF hH; rintro rfl rfl)
 refine zh rfl (zM1 [0] (fun _ => [.box (ascL cut)]) false (fun _ => triml_v cut _ (by omega)) rfl .fn rfl (by decide) (by kernel_rfl) rfl (fun _ => .cons (.c rfl) (.cons (.p rfl) .nil)) (by decide) (fun _ => .box rfl (C0 (zf1 _)) .nil) (by simp)) ?_
 rintro F1 H1 ⟨_, _, _, _, ⟨rfl, rfl⟩, hF, hH⟩
 (refine NSU hF hH ?_; clear hF hH; rintro rfl rfl)
 refine WE ?_
 exact zf [] _ rfl rfl rfl (by decide) (ZNK rfl) (fun _ => .nil) ⟨rfl, rfl⟩
end Go.Proofs.YtlhbfcfjepbhpaaGreatDoor
-- NEWM
namespace Go.Proofs.YtlhbfcfjepbhpaaGreatDoor
open Go Go.RowKit
set_option maxRecDepth 100000
def outB (n lo hi : Int) : Bool := decide (n < lo) || decide (hi < n)
theorem out_v (n lo hi : Int) : ACalls Tryz.prog 126 [.c (I n), .c (I lo), .c (I hi)] [] fun u H => u = .c (B (outB n lo hi)) ∧ H = [] := by
 refine zg (N := 15) Tryz.func126 rfl rfl (by simp) fun E hE => ?_
 by_cases h1 : n < lo
 ·repeat' (first
   | (with_reducible refine zI ?_) | (with_reducible refine zH ?_) | (with_reducible refine zK ?_) | (with_reducible refine zP ?_) | (with_reducible refine zM ?_) | (with_reducible refine zQ ?_) | (with_reducible refine zO rfl ?_) | (with_reducible refine zL ?_) | (with_reducible refine zu ?_) | (with_reducible refine zn ?_) | (with_reducible refine zJ ?_) | (with_reducible refine zz ?_)
   | refine zb rfl ?_ | refine za rfl ?_ | refine zw rfl (by assumption) ?_ | refine zt rfl (by assumption) ?_ | refine zq rfl (fun _ => ?_) (fun _ => ?_) | refine zp rfl (fun _ => ?_) (fun _ => ?_)
   | (refine zd ?_; refine WE ?_))
  exact zf [] _ rfl rfl rfl (by decide) (ZNK rfl) (fun _ => .nil) ⟨congrArg (fun z => AV.c (B z)) (by simp [outB, h1]), rfl⟩
 ·by_cases h2 : hi < n
  ·repeat' (first
    | (with_reducible refine zI ?_) | (with_reducible refine zH ?_) | (with_reducible refine zK ?_) | (with_reducible refine zP ?_) | (with_reducible refine zM ?_) | (with_reducible refine zQ ?_) | (with_reducible refine zO rfl ?_) | (with_reducible refine zL ?_) | (with_reducible refine zu ?_) | (with_reducible refine zn ?_) | (with_reducible refine zJ ?_) | (with_reducible refine zz ?_)
    | refine zb rfl ?_ | refine za rfl ?_ | refine zw rfl (by assumption) ?_ | refine zt rfl (by assumption) ?_ | refine zq rfl (fun _ => ?_) (fun _ => ?_) | refine zp rfl (fun _ => ?_) (fun _ => ?_)
    | (refine zd ?_; refine WE ?_))
   exact zf [] _ rfl rfl rfl (by decide) (ZNK rfl) (fun _ => .nil) ⟨congrArg (fun z => AV.c (B z)) (by simp [outB, h2]), rfl⟩
  ·repeat' (first
    | (with_reducible refine zI ?_) | (with_reducible refine zH ?_) | (with_reducible refine zK ?_) | (with_reducible refine zP ?_) | (with_reducible refine zM ?_) | (with_reducible refine zQ ?_) | (with_reducible refine zO rfl ?_) | (with_reducible refine zL ?_) | (with_reducible refine zu ?_) | (with_reducible refine zn ?_) | (with_reducible refine zJ ?_) | (with_reducible refine zz ?_)
    | refine zb rfl ?_ | refine za rfl ?_ | refine zw rfl (by assumption) ?_ | refine zt rfl (by assumption) ?_ | refine zq rfl (fun _ => ?_) (fun _ => ?_) | refine zp rfl (fun _ => ?_) (fun _ => ?_)
    | (refine zd ?_; refine WE ?_))
   exact zf [] _ rfl rfl rfl (by decide) (ZNK rfl) (fun _ => .nil) ⟨congrArg (fun z => AV.c (B z)) (by simp [outB, h1, h2]), rfl⟩
def moB (n : Int) : Bool := !outB n 0 345686399999
theorem zi3 (n : Int) : ACalls Tryz.prog 127 [.c (I n)] [] fun u H => u = .c (B (moB n)) ∧ H = [] := by
 refine zg (N := 6) Tryz.func127 rfl rfl (by simp) fun E hE => ?_
 repeat' (first
  | (with_reducible refine zI ?_) | (with_reducible refine zH ?_) | (with_reducible refine zK ?_) | (with_reducible refine zP ?_) | (with_reducible refine zM ?_) | (with_reducible refine zQ ?_) | (with_reducible refine zO rfl ?_) | (with_reducible refine zL ?_) | (with_reducible refine zu ?_) | (with_reducible refine zn ?_) | (with_reducible refine zJ ?_) | (with_reducible refine zz ?_)
  | refine zb rfl ?_ | refine za rfl ?_ | refine zw rfl (by assumption) ?_ | refine zt rfl (by assumption) ?_ | refine zq rfl (fun _ => ?_) (fun _ => ?_) | refine zp rfl (fun _ => ?_) (fun _ => ?_)
  | (refine zd (id := 1) ?_
     refine WO ?_
     refine zh rfl (zc false (fun _ => out_v _ _ _) rfl .fn rfl (by decide) (by kernel_rfl) rfl (fun _ => C0 rfl) (by simp)) ?_
     rintro _ _ ⟨_, _, _, ⟨rfl, rfl⟩, hF, hH⟩
     (refine NST hF hH ?_; clear hF hH; rintro rfl rfl)
     refine WE ?_)
  | (refine zd ?_; refine WE ?_))
 exact zf [] _ rfl rfl rfl (by decide) (ZNK rfl) (fun _ => .nil) ⟨rfl, rfl⟩
theorem isl_v (l : List UInt8) (c : UInt8) : ACalls Tryz.prog 253 [.c (T l), .c (.s (.int .u8 c.toNat))] [] fun u H => u = .c (I (idxB c l 0)) ∧ H = [] := by
 refine zg (N := 8) Tryz.func253 rfl rfl (by simp) fun E hE => ?_
 repeat' (first
  | (with_reducible refine zI ?_) | (with_reducible refine zH ?_) | (with_reducible refine zK ?_) | (with_reducible refine zP ?_) | (with_reducible refine zM ?_) | (with_reducible refine zQ ?_) | (with_reducible refine zO rfl ?_) | (with_reducible refine zL ?_) | (with_reducible refine zu ?_) | (with_reducible refine zn ?_) | (with_reducible refine zJ ?_) | (with_reducible refine zz ?_)
  | refine zb rfl ?_ | refine za rfl ?_ | refine zw rfl (by assumption) ?_ | refine zt rfl (by assumption) ?_ | refine zq rfl (fun _ => ?_) (fun _ => ?_) | refine zp rfl (fun _ => ?_) (fun _ => ?_)
  | (refine zd (id := 1) ?_
     refine WO ?_
     refine ZA (rd_ext (us := [.string (bst l), .int .u8 c.toNat]) rfl rfl (fun _ _ => rfl) Tryz.func303 (by decide +kernel) rfl rfl rfl (fun w => run_indexByte_string _ _ w)) ?_
     refine WE ?_)
  | (refine zd ?_; refine WE ?_))
 exact zf [] _ rfl rfl rfl (by decide) (ZNK rfl) (fun _ => .nil) ⟨congrArg (fun z => AV.c (I z)) (by first | exact firstIdx_eq l c | (simp; exact firstIdx_eq l c)), rfl⟩
theorem sib_v (l : List UInt8) (c : UInt8) : ACalls Tryz.prog 182 [.c (T l), .c (.s (.int .u8 c.toNat))] [] fun u H => u = .c (I (idxB c l 0)) ∧ H = [] := by
 refine zg (N := 8) Tryz.func182 rfl rfl (by simp) fun E hE => ?_
 repeat' (first
  | (with_reducible refine zI ?_) | (with_reducible refine zH ?_) | (with_reducible refine zK ?_) | (with_reducible refine zP ?_) | (with_reducible refine zM ?_) | (with_reducible refine zQ ?_) | (with_reducible refine zO rfl ?_) | (with_reducible refine zL ?_) | (with_reducible refine zu ?_) | (with_reducible refine zn ?_) | (with_reducible refine zJ ?_) | (with_reducible refine zz ?_)
  | refine zb rfl ?_ | refine za rfl ?_ | refine zw rfl (by assumption) ?_ | refine zt rfl (by assumption) ?_ | refine zq rfl (fun _ => ?_) (fun _ => ?_) | refine zp rfl (fun _ => ?_) (fun _ => ?_)
  | (refine zd (id := 1) ?_
     refine WO ?_
     refine zh rfl (zc false (fun _ => isl_v l c) rfl .fn rfl (by decide) (by kernel_rfl) rfl (fun _ => C0 rfl) (by simp)) ?_
     rintro _ _ ⟨_, _, _, ⟨rfl, rfl⟩, hF, hH⟩
     (refine NST hF hH ?_; clear hF hH; rintro rfl rfl)
     refine WE ?_)
  | (refine zd ?_; refine WE ?_))
 exact zf [] _ rfl rfl rfl (by decide) (ZNK rfl) (fun _ => .nil) ⟨rfl, rfl⟩
end Go.Proofs.YtlhbfcfjepbhpaaGreatDoor
