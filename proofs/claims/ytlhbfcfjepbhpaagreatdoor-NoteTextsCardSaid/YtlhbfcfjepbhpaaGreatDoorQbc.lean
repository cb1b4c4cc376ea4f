/- The logic over values: maps; walks through maps and strings. -/
import Derived.Test.YtlhbfcfjepbhpaaGreatDoorQbb
import Derived.Test.YtlhbfcfjepbhpaaGreatDoorQav
import Derived.Maps.RangeRun
set_option linter.unusedSimpArgs false
set_option linter.unusedVariables false
-- NEWM
namespace Go.Proofs.YtlhbfcfjepbhpaaGreatDoor
open Go Go.RowKit
set_option maxRecDepth 100000
def fstN : List Int → Int
 | [] => 0
 | a :: l => if a = 0 then fstN l else a
theorem fstN_drop {l : List Int} {k : Nat} {n : Int} (h : l[k]? = some n) : fstN (l.drop k) = if n = 0 then fstN (l.drop (k + 1)) else n := by
 obtain ⟨h1, h2⟩ := List.getElem?_eq_some_iff.1 h
 rw [List.drop_eq_getElem_cons h1, h2]; rfl
abbrev nR (l : List Int) : List (List CV) := l.map fun n => [I n]
theorem orJ_v (l : List Int) (v : Value) (hl : l.length ≤ 1000000) : ACalls Tryz.prog 87 [.c (.r v (nR l))] [] fun u H => u = .c (I (fstN l)) ∧ H = [] := by
 have e1 : (nR l).length = l.length := by simp
 refine zg (N := 18) Tryz.func87 rfl rfl (by simp) fun E hE => ?_
 refine WA ?_
 refine WA ?_
 refine WA ?_
 refine zK (fun m F H => ∃ (k : Nat), m + k = l.length ∧ fstN (l.drop k) = fstN l ∧ F = [(3, .c (I 0)), (6, .c (.r v (nR l))), (7, .c (I (nR l).length)), (8, .c (I k))] ∧ H = []) ?_ ?_
 ·refine zp [] (fun _ => [(3, .c (I 0)), (6, .c (.r v (nR l))), (7, .c (I (nR l).length)), (8, .c (I (0 : Nat)))]) (fun _ => []) (by decide) (ZNL hE) ZCF (fun _ => .nil) (fun _ => ?_)
  exact ⟨l.length, 0, by omega, rfl, rfl, rfl⟩
 rintro m F H ⟨k, hk, hf, rfl, rfl⟩
 refine WA ?_
 refine zw rfl (fun hlt => ?_) (fun hge => ?_)
 ·obtain ⟨n, hn⟩ : ∃ n, l[k]? = some n := ⟨_, List.getElem?_eq_getElem (by omega)⟩
  have hrow : (nR l)[k]? = some [I n] := by rw [List.getElem?_map, hn]; rfl
  have hd := fstN_drop hn
  refine WA ?_
  refine WA ?_
  refine zw rfl (fun hv => ?_) (fun hv => ?_)
  ·refine WA ?_
   exact zh [] _ rfl rfl rfl (by decide) (ZNK rfl) (fun _ => .nil) ⟨by rw [← hf, hd, if_neg hv], rfl⟩
  ·refine ZZ ?_
   refine WA ?_
   refine zp [] (fun _ => [(3, .c (I 0)), (6, .c (.r v (nR l))), (7, .c (I (nR l).length)), (8, .c (I (k + 1 : Nat)))]) (fun _ => []) (by decide) (ZNL hE) ZCF (fun _ => .nil) (fun _ => ?_)
   exact ⟨m - 1, by omega, k + 1, by omega, by rw [← hf, hd, if_pos (by omega)], rfl, rfl⟩
 refine ZZ ?_
 refine WA ?_
 exact zh [] _ rfl rfl rfl (by decide) (ZNK rfl) (fun _ => .nil) ⟨by rw [← hf, List.drop_eq_nil_of_le (by omega)]; rfl, rfl⟩
def cmpLs : List Int → List Int → Int
 | [], [] => 0
 | [], _ :: _ => -1
 | _ :: _, [] => 1
 | x :: a, y :: b => if cmpI x y ≠ 0 then cmpI x y else cmpLs a b
theorem drop_c {l : List Int} {k : Nat} {n : Int} (h : l[k]? = some n) : l.drop k = n :: l.drop (k + 1) := by
 obtain ⟨h1, h2⟩ := List.getElem?_eq_some_iff.1 h
 rw [List.drop_eq_getElem_cons h1, h2]
set_option maxHeartbeats 1000000 in
theorem compare_v (a b : List Int) (va vb : Value) (ha : a.length ≤ 1000000) (hb : b.length ≤ 1000000) : ACalls Tryz.prog 97 [.c (.r va (nR a)), .c (.r vb (nR b))] [] fun u H => u = .c (I (cmpLs a b)) ∧ H = [] := by
 have e1 : (nR a).length = a.length := by simp
 have e2 : (nR b).length = b.length := by simp
 refine zg (N := 36) Tryz.func97 rfl rfl (by simp) fun E hE => ?_
 refine WA ?_
 refine WA ?_
 refine zK (fun m F H => ∃ (k : Nat), m + k = a.length ∧ k ≤ b.length ∧ cmpLs (a.drop k) (b.drop k) = cmpLs a b ∧ F = [(0, .c (.r va (nR a))), (1, .c (.r vb (nR b))), (9, .c (.r va (nR a))), (10, .c (I (nR a).length)), (11, .c (I k))] ∧ H = []) ?_ ?_
 ·refine zp [] (fun _ => [(0, .c (.r va (nR a))), (1, .c (.r vb (nR b))), (9, .c (.r va (nR a))), (10, .c (I (nR a).length)), (11, .c (I (0 : Nat)))]) (fun _ => []) (by decide) (ZNL hE) ZCF (fun _ => .nil) (fun _ => ?_)
  exact ⟨a.length, 0, by omega, by omega, rfl, rfl, rfl⟩
 rintro m F H ⟨k, hk, hkb, hf, rfl, rfl⟩
 refine WA ?_
 refine zw rfl (fun hlt => ?_) (fun hge => ?_)
 ·obtain ⟨x, hx⟩ : ∃ n, a[k]? = some n := ⟨_, List.getElem?_eq_getElem (by omega)⟩
  have hrow : (nR a)[k]? = some [I x] := by rw [List.getElem?_map, hx]; rfl
  have hd := drop_c hx
  rw [hd] at hf
  refine WA ?_
  refine WA ?_
  refine zw rfl (fun h1 => ?_) (fun h1 => ?_)
  ·have hv : cmpLs a b = 1 := by rw [← hf, List.drop_eq_nil_of_le (show b.length ≤ k by omega)]; rfl
   rw [hv]
   refine WA ?_
   exact zh [] _ rfl rfl rfl (by decide) (ZNK rfl) (fun _ => .nil) ⟨rfl, rfl⟩
  obtain ⟨y, hy⟩ : ∃ n, b[k]? = some n := ⟨_, List.getElem?_eq_getElem (by omega)⟩
  have hrow2 : (nR b)[k]? = some [I y] := by rw [List.getElem?_map, hy]; rfl
  rw [drop_c hy, cmpLs] at hf
  refine ZZ ?_
  refine WA ?_
  refine WR ?_
  refine zf rfl (zc false (fun _ => cmpI_v _ _) rfl .fn rfl (by decide) (by kernel_rfl) rfl (fun _g => .cons (.c rfl) (.cons (.c rfl) .nil)) (by simp)) ?_
  rintro _ _ ⟨_, _, _, ⟨rfl, rfl⟩, hF, hH⟩
  (refine NST hF hH ?_; clear hF hH; rintro rfl rfl)
  refine WE ?_
  generalize cmpI x y = z at *
  refine WA ?_
  refine zw rfl (fun h0 => ?_) (fun h0 => ?_)
  ·rw [if_pos h0] at hf
   rw [← hf]
   refine WA ?_
   exact zh [] _ rfl rfl rfl (by decide) (ZNK rfl) (fun _ => .nil) ⟨rfl, rfl⟩
  ·rw [if_neg h0] at hf
   refine ZZ ?_
   refine WA ?_
   refine zp [] (fun _ => [(0, .c (.r va (nR a))), (1, .c (.r vb (nR b))), (9, .c (.r va (nR a))), (10, .c (I (nR a).length)), (11, .c (I (k + 1 : Nat)))]) (fun _ => []) (by decide) (ZNL hE) ZCF (fun _ => .nil) (fun _ => ?_)
   exact ⟨m - 1, by omega, k + 1, by omega, by omega, hf, rfl, rfl⟩
 rw [List.drop_eq_nil_of_le (show a.length ≤ k by omega)] at hf
 refine ZZ ?_
 refine WA ?_
 refine zw rfl (fun h0 => ?_) (fun h0 => ?_)
 ·have hv : cmpLs a b = -1 := by
   rw [← hf]
   cases hb2 : b.drop k with
   | nil => have := List.drop_eq_nil_iff.1 hb2; omega
   | cons y l => rfl
  rw [hv]
  refine WA ?_
  exact zh [] _ rfl rfl rfl (by decide) (ZNK rfl) (fun _ => .nil) ⟨rfl, rfl⟩
 ·have hv : cmpLs a b = 0 := by rw [← hf, List.drop_eq_nil_of_le (show b.length ≤ k by omega)]; rfl
  rw [hv]
  refine ZZ ?_
  refine WA ?_
  exact zh [] _ rfl rfl rfl (by decide) (ZNK rfl) (fun _ => .nil) ⟨rfl, rfl⟩
theorem cmpN_lt {m n : Int} : cmpI m n < 0 ↔ m < n := by unfold cmpI; split <;> (try split) <;> omega
theorem cmpN_0 {m n : Int} : cmpI m n = 0 ↔ m = n := by unfold cmpI; split <;> (try split) <;> omega
def cmpB : List UInt8 → List UInt8 → Int
 | [], [] => 0
 | [], _ :: _ => -1
 | _ :: _, [] => 1
 | x :: a, y :: b => if x = y then cmpB a b else if x < y then -1 else 1
theorem cmpB_eq : ∀ {a b : List UInt8}, cmpB a b = 0 ↔ a = b
 | [], [] => by simp [cmpB]
 | [], _ :: _ => by simp [cmpB]
 | _ :: _, [] => by simp [cmpB]
 | x :: a, y :: b => by
  unfold cmpB
  split
  ·rename_i h; rw [cmpB_eq]; simp [h]
  ·rename_i h; split <;> simp [h]
theorem cmpB_trans : ∀ {a b c : List UInt8}, cmpB a b < 0 → cmpB b c < 0 → cmpB a c < 0
 | [], [], _ => by simp [cmpB]
 | _, _ :: _, [] => by simp [cmpB]
 | [], _ :: _, _ :: _ => by simp [cmpB]
 | _ :: _, [], _ => by simp [cmpB]
 | x :: a, y :: b, z :: c => by
  intro h1 h2
  unfold cmpB at h1 h2 ⊢
  by_cases e1 : x = y
  ·subst e1
   rw [if_pos rfl] at h1
   by_cases e2 : x = z
   ·subst e2
    rw [if_pos rfl] at h2 ⊢
    exact cmpB_trans h1 h2
   ·rw [if_neg e2] at h2 ⊢; exact h2
  ·rw [if_neg e1] at h1
   split at h1
   ·rename_i h3
    have h3' : x.toNat < y.toNat := h3
    by_cases e2 : y = z
    ·subst e2; rw [if_neg e1, if_pos h3]; decide
    ·rw [if_neg e2] at h2
     split at h2
     ·rename_i h4
      have h4' : y.toNat < z.toNat := h4
      rw [if_neg (fun e => by subst e; omega), if_pos (show x < z from by show x.toNat < z.toNat; omega)]
      decide
     ·omega
   ·omega
theorem cmp_cmpB {a b : List UInt8} : ∀ (n i : Nat), i + n = min a.length b.length → (match (List.range' i n).find? (fun i => (bst a)[i]! != (bst b)[i]!) with | some i => if (bst a)[i]! < (bst b)[i]! then (-1 : Int) else 1 | none => if a.length < b.length then -1 else if a.length > b.length then 1 else 0) = cmpB (a.drop i) (b.drop i)
 | 0, i, h => by
  show (if a.length < b.length then (-1 : Int) else if a.length > b.length then 1 else 0) = _
  by_cases h1 : a.length < b.length
  ·rw [if_pos h1, List.drop_eq_nil_of_le (show a.length ≤ i by omega)]
   cases hb : b.drop i with
   | nil => have := List.drop_eq_nil_iff.1 hb; omega
   | cons y l => rfl
  ·rw [if_neg h1, List.drop_eq_nil_of_le (show b.length ≤ i by omega)]
   by_cases h2 : a.length > b.length
   ·rw [if_pos h2]
    cases ha : a.drop i with
    | nil => have := List.drop_eq_nil_iff.1 ha; omega
    | cons y l => rfl
   ·rw [if_neg h2, List.drop_eq_nil_of_le (show a.length ≤ i by omega)]; rfl
 | n + 1, i, h => by
  have hi : i < a.length := by omega
  have hj : i < b.length := by omega
  rw [List.drop_eq_getElem_cons hi, List.drop_eq_getElem_cons hj, List.range'_succ, List.find?_cons]
  have hg : ∀ (l : List UInt8) (hl : i < l.length), (bst l)[i]! = l[i] := fun l hl => by
   rw [getElem!_pos (bst l) i (by rw [zF1]; exact hl)]; rfl
  rw [hg a hi, hg b hj, cmpB]
  by_cases hc : a[i] = b[i]
  ·rw [if_pos hc, show (a[i] != b[i]) = false by simp [hc]]
   exact cmp_cmpB n (i + 1) (by omega)
  ·rw [if_neg hc, show (a[i] != b[i]) = true by simpa using hc]
   show (if (bst a)[i]! < (bst b)[i]! then (-1 : Int) else 1) = _
   rw [hg a hi, hg b hj]
theorem cmp_bst (a b : List UInt8) : Extern.BytealgCompare.cmp (bst a) (bst b) = cmpB a b := by
 have := cmp_cmpB (a := a) (b := b) (min a.length b.length) 0 (by omega)
 rw [List.drop_zero, List.drop_zero] at this
 rw [← this]
 unfold Extern.BytealgCompare.cmp
 rw [zF1, zF1, List.range_eq_range']
 cases (List.range' 0 (min a.length b.length)).find? fun i => (bst a)[i]! != (bst b)[i]! <;> rfl
theorem run_cmpstr {P : Program} (a b : List UInt8) (w : World) : (Extern.BytealgCompare.compare #[.string (bst a), .string (bst b)]).run P w = .ok (.int .i64 (cmpB a b)) w := by
 rw [← cmp_bst]
 show (do pure (goInt (Extern.BytealgCompare.cmp (← Extern.Bytes.bytesOf (.string (bst a))) (← Extern.Bytes.bytesOf (.string (bst b))))) : Sem Value).run P w = _
 rfl
theorem bcmp_v (a b : List UInt8) : ACalls Tryz.prog 148 [.c (T a), .c (T b)] [] fun u H => u = .c (I (cmpB a b)) ∧ H = [] := by
 refine zg (N := 8) Tryz.func148 rfl rfl (by simp) fun E hE => ?_
 repeat' (first
  | (with_reducible refine zC ?_) | (with_reducible refine zA ?_) | (with_reducible refine zE ?_) | (with_reducible refine zI ?_) | (with_reducible refine zG ?_) | (with_reducible refine zJ ?_) | (with_reducible refine zH rfl ?_) | (with_reducible refine zF ?_) | (with_reducible refine zq ?_) | (with_reducible refine zj ?_) | (with_reducible refine zD ?_) | (with_reducible refine zt ?_)
  | refine zb rfl ?_ | refine za rfl ?_ | refine zr rfl (by assumption) ?_ | refine zo rfl (by assumption) ?_ | refine zw rfl (fun _ => ?_) (fun _ => ?_) | refine zn rfl (fun _ => ?_) (fun _ => ?_)
  | (refine zd (id := 1) ?_
     refine WO ?_
     refine ZA (rd_ext (us := [.string (bst a), .string (bst b)]) rfl rfl (fun _ _ => rfl) Tryz.func215 (by decide +kernel) rfl rfl rfl (fun w => run_cmpstr a b w)) ?_
     refine WE ?_)
  | (refine zd ?_; refine WE ?_))
 exact zh [] _ rfl rfl rfl (by decide) (ZNK rfl) (fun _ => .nil) ⟨rfl, rfl⟩
theorem scmp_v (a b : List UInt8) : ACalls Tryz.prog 89 [.c (T a), .c (T b)] [] fun u H => u = .c (I (cmpB a b)) ∧ H = [] := by
 refine zg (N := 8) Tryz.func89 rfl rfl (by simp) fun E hE => ?_
 repeat' (first
  | (with_reducible refine zC ?_) | (with_reducible refine zA ?_) | (with_reducible refine zE ?_) | (with_reducible refine zI ?_) | (with_reducible refine zG ?_) | (with_reducible refine zJ ?_) | (with_reducible refine zH rfl ?_) | (with_reducible refine zF ?_) | (with_reducible refine zq ?_) | (with_reducible refine zj ?_) | (with_reducible refine zD ?_) | (with_reducible refine zt ?_)
  | refine zb rfl ?_ | refine za rfl ?_ | refine zr rfl (by assumption) ?_ | refine zo rfl (by assumption) ?_ | refine zw rfl (fun _ => ?_) (fun _ => ?_) | refine zn rfl (fun _ => ?_) (fun _ => ?_)
  | (refine zd (id := 1) ?_
     refine WO ?_
     refine zf rfl (zc false (fun _ => bcmp_v _ _) rfl .fn rfl (by decide) (by kernel_rfl) rfl (fun _ => C0 rfl) (by simp)) ?_
     rintro _ _ ⟨_, _, _, ⟨rfl, rfl⟩, hF, hH⟩
     (refine NST hF hH ?_; clear hF hH; rintro rfl rfl)
     refine WE ?_)
  | (refine zd ?_; refine WE ?_))
 exact zh [] _ rfl rfl rfl (by decide) (ZNK rfl) (fun _ => .nil) ⟨rfl, rfl⟩
end Go.Proofs.YtlhbfcfjepbhpaaGreatDoor
-- NEWM
namespace Go.Proofs.YtlhbfcfjepbhpaaGreatDoor
open Go Go.RowKit
set_option maxRecDepth 100000
def cmpNt (a b : Nt) : Int := fstN [cmpI a.at_ b.at_, cmpB a.st b.st, cmpI a.no b.no]
theorem compareN_v (a b : Nt) : ACalls Tryz.prog 71 [noA a, noA b] [] fun u H => u = .c (I (cmpNt a b)) ∧ H = [] := by
 obtain ⟨a0, a1, a2, a3, a4, a5, a6, a7, a8, a9⟩ := a
 obtain ⟨c0, c1, c2, c3, c4, c5, c6, c7, c8, c9⟩ := b
 show ACalls _ _ [.a [.c (T a0), .c (I a1), .c (I a2), .c (I a3), .c (T a4), .c (T a5), .c (T a6), .c (I a7), .c (T a8), .c (I a9)], .a [.c (T c0), .c (I c1), .c (I c2), .c (I c3), .c (T c4), .c (T c5), .c (T c6), .c (I c7), .c (T c8), .c (I c9)]] [] _
 refine zg (N := 22) Tryz.func71 rfl rfl (by simp) fun E hE => ?_
 refine WA ?_
 refine ZZ ?_
 refine zk [(0, none), (1, none), (2, none), (3, none), (5, none), (6, none), (7, none), (8, none), (10, none), (11, none), (12, none), (13, none), (4, some [5, 6, 7, 8, 10, 11, 12, 13]), (9, some [10, 11, 12, 13]), (14, some []), (15, some []), (16, some []), (17, none)] zS (by kernel_rfl) ?_
 refine WP ?_
 refine zi2 rfl rfl (zc false (fun _ => cmpI_v _ _) rfl .fn rfl (by decide) (by kernel_rfl) rfl (fun _g => .cons (.c rfl) (.cons (.c rfl) .nil)) (by simp)) ?_
 rintro _ _ ⟨_, _, _, ⟨rfl, rfl⟩, hF, hH⟩
 (refine NST hF hH ?_; clear hF hH; rintro rfl rfl)
 refine ⟨ze (by first | exact zz rfl rfl rfl (ZX (KF (t := 39) (f := 0) rfl rfl)) rfl) (ze (by first | exact zz rfl rfl rfl (ZL (KK (t := 9) rfl)) rfl) (ze (by first | exact zz rfl rfl rfl (ZX (KF (t := 39) (f := 0) rfl rfl)) rfl) (ze (by first | exact zz rfl rfl rfl (ZL (KK (t := 9) rfl)) rfl) (ze (by first | exact zz rfl rfl rfl (ZX (KF (t := 39) (f := 1) rfl rfl)) rfl) (ze (by first | exact zz rfl rfl rfl (ZL (KK (t := 3) rfl)) rfl) (ze (by first | exact zz rfl rfl rfl (ZX (KF (t := 39) (f := 1) rfl rfl)) rfl) (ze (by first | exact zz rfl rfl rfl (ZL (KK (t := 3) rfl)) rfl) (zm)))))))), ?_⟩
 refine zi2 rfl rfl (zc false (fun _ => scmp_v _ _) rfl .fn rfl (by decide) (by kernel_rfl) rfl (fun _ => C0 rfl) (by simp)) ?_
 rintro _ _ ⟨_, _, _, ⟨rfl, rfl⟩, hF, hH⟩
 (refine NST hF hH ?_; clear hF hH; rintro rfl rfl)
 refine ⟨ze (by first | exact zz rfl rfl rfl (ZX (KF (t := 39) (f := 1) rfl rfl)) rfl) (ze (by first | exact zz rfl rfl rfl (ZL (KK (t := 3) rfl)) rfl) (ze (by first | exact zz rfl rfl rfl (ZX (KF (t := 39) (f := 1) rfl rfl)) rfl) (ze (by first | exact zz rfl rfl rfl (ZL (KK (t := 3) rfl)) rfl) (zm)))), ?_⟩
 refine zi2 rfl rfl (zc false (fun _ => cmpI_v _ _) rfl .fn rfl (by decide) (by kernel_rfl) rfl (fun _g => .cons (.c rfl) (.cons (.c rfl) .nil)) (by simp)) ?_
 rintro _ _ ⟨_, _, _, ⟨rfl, rfl⟩, hF, hH⟩
 (refine NST hF hH ?_; clear hF hH; rintro rfl rfl)
 refine ⟨zm, ?_⟩
 refine WP ?_
 refine zi2 rfl rfl (zc true (fun g => orJ_v [cmpI a2 c2, cmpB a0 c0, cmpI a1 c1] (g (.o 2 0 3 3)) (by simp)) rfl .fn rfl (by decide) (by kernel_rfl) rfl (fun _ => .cons (.frz rfl rfl rfl rfl rfl) .nil) (fun _ _ _ _ ⟨hu, hH⟩ => by rw [hu, hH]; exact ⟨.c (.inl trivial), by simp⟩)) ?_
 rintro _ _ ⟨_, _, _, ⟨rfl, rfl⟩, hF, hH⟩
 (refine NST hF hH ?_; clear hF hH; rintro rfl rfl)
 refine ⟨zm, ?_⟩
 refine WQ ?_
 all_goals exact zh [] _ rfl rfl rfl (by decide) (ZNK rfl) (fun _ => .nil) ⟨rfl, rfl⟩
theorem cmpLs1 (m n : Int) : cmpLs [m] [n] = cmpI m n := by
 unfold cmpLs
 split
 ·rfl
 ·rename_i h; rw [show cmpI m n = 0 by omega]; rfl
theorem norder_v (a b : Nt) : ACalls Tryz.prog 50 [noA a, noA b] [] fun u H => u = .c (I (cmpNt a b)) ∧ H = [] := by
 obtain ⟨a0, a1, a2, a3, a4, a5, a6, a7, a8, a9⟩ := a
 obtain ⟨c0, c1, c2, c3, c4, c5, c6, c7, c8, c9⟩ := b
 show ACalls _ _ [.a [.c (T a0), .c (I a1), .c (I a2), .c (I a3), .c (T a4), .c (T a5), .c (T a6), .c (I a7), .c (T a8), .c (I a9)], .a [.c (T c0), .c (I c1), .c (I c2), .c (I c3), .c (T c4), .c (T c5), .c (T c6), .c (I c7), .c (T c8), .c (I c9)]] [] fun u H => u = .c (I (fstN [cmpI a2 c2, cmpB a0 c0, cmpI a1 c1])) ∧ H = []
 refine zg (N := 34) Tryz.func50 rfl rfl (by simp) fun E hE => ?_
 refine WA ?_
 refine WA ?_
 refine zw rfl (fun h1 => ?_) (fun h1 => ?_)
 ·have hz : cmpI a2 c2 ≠ 0 := fun e => h1 (cmpN_0.1 e)
  refine WR ?_
  refine zf rfl (zc true (fun g => compare_v [a2] [c2] (g (.o _ 0 1 1)) (g (.o _ 0 1 1)) (by simp) (by simp)) rfl .fn rfl (by decide) (by kernel_rfl) rfl (fun _ => .cons (.frz rfl rfl rfl rfl rfl) (.cons (.frz rfl rfl rfl rfl rfl) .nil)) (fun _ _ _ _ ⟨hu, hH⟩ => by rw [hu, hH]; exact ⟨.c (.inl trivial), by simp⟩)) ?_
  rintro _ _ ⟨_, _, _, ⟨rfl, rfl⟩, hF, hH⟩
  (refine NST hF hH ?_; clear hF hH; rintro rfl rfl)
  refine WE ?_
  all_goals exact zh [] _ rfl rfl rfl (by decide) (ZNK rfl) (fun _ => .nil) ⟨by rw [cmpLs1, fstN, if_neg hz], rfl⟩
 have hz : cmpI a2 c2 = 0 := cmpN_0.2 (by omega)
 obtain ⟨q, hq⟩ : ∃ q, decide (a0 ≠ c0) = q := ⟨_, rfl⟩
 refine ZZ ?_
 refine ZR ?_
 iterate 4 refine WX1 ?_
 refine ZA (zZ (a := a0) (b := c0) hq rfl Tryz.underlying9 rfl rfl) ?_
 refine WE ?_
 cases q with
 | true =>
  have hz2 : cmpB a0 c0 ≠ 0 := fun e => of_decide_eq_true hq (cmpB_eq.1 e)
  refine zb rfl ?_
  refine ZZ ?_
  refine WR ?_
  refine zf rfl (zc false (fun _ => scmp_v _ _) rfl .fn rfl (by decide) (by kernel_rfl) rfl (fun _ => C0 rfl) (by simp)) ?_
  rintro _ _ ⟨_, _, _, ⟨rfl, rfl⟩, hF, hH⟩
  (refine NST hF hH ?_; clear hF hH; rintro rfl rfl)
  refine WE ?_
  exact zh [] _ rfl rfl rfl (by decide) (ZNK rfl) (fun _ => .nil) ⟨by rw [fstN, if_pos hz, fstN, if_neg hz2], rfl⟩
 | false =>
  have hz2 : cmpB a0 c0 = 0 := cmpB_eq.2 (Decidable.not_not.1 (of_decide_eq_false hq))
  refine za rfl ?_
  refine ZZ ?_
  refine WR ?_
  refine zf rfl (zc true (fun g => compare_v [a1] [c1] (g (.o _ 0 1 1)) (g (.o _ 0 1 1)) (by simp) (by simp)) rfl .fn rfl (by decide) (by kernel_rfl) rfl (fun _ => .cons (.frz rfl rfl rfl rfl rfl) (.cons (.frz rfl rfl rfl rfl rfl) .nil)) (fun _ _ _ _ ⟨hu, hH⟩ => by rw [hu, hH]; exact ⟨.c (.inl trivial), by simp⟩)) ?_
  rintro _ _ ⟨_, _, _, ⟨rfl, rfl⟩, hF, hH⟩
  (refine NST hF hH ?_; clear hF hH; rintro rfl rfl)
  refine WE ?_
  all_goals (refine zh [] _ rfl rfl rfl (by decide) (ZNK rfl) (fun _ => .nil) ⟨?_, rfl⟩)
  all_goals (rw [cmpLs1, fstN, if_pos hz, fstN, if_pos hz2, fstN])
  all_goals (by_cases h : cmpI a1 c1 = 0)
  all_goals first | rw [if_neg h] | (rw [if_pos h, h]; rfl)
theorem cmpNt_lt (a b : Nt) : cmpNt a b < 0 ↔ a.at_ < b.at_ ∨ (a.at_ = b.at_ ∧ (cmpB a.st b.st < 0 ∨ (a.st = b.st ∧ a.no < b.no))) := by
 have h1 := @cmpN_lt a.at_ b.at_
 have h2 := @cmpN_0 a.at_ b.at_
 have h3 := @cmpN_lt a.no b.no
 have h4 := @cmpB_eq a.st b.st
 unfold cmpNt
 simp only [fstN]
 split
 ·rename_i e
  split
  ·rename_i e2
   rw [← h4]
   split <;> omega
  ·rename_i e2
   rw [← h4]; omega
 ·rename_i e; omega
theorem cmpNt_trans {a b c : Nt} (h1 : cmpNt a b < 0) (h2 : cmpNt b c < 0) : cmpNt a c < 0 := by
 rw [cmpNt_lt] at *
 rcases h1 with h1 | ⟨e1, h1⟩ <;> rcases h2 with h2 | ⟨e2, h2⟩
 ·left; omega
 ·left; omega
 ·left; omega
 ·right
  refine ⟨by omega, ?_⟩
  rcases h1 with h1 | ⟨f1, h1⟩ <;> rcases h2 with h2 | ⟨f2, h2⟩
  ·exact .inl (cmpB_trans h1 h2)
  ·exact .inl (f2 ▸ h1)
  ·exact .inl (f1 ▸ h2)
  ·exact .inr ⟨f1.trans f2, by omega⟩
end Go.Proofs.YtlhbfcfjepbhpaaGreatDoor
namespace Go.Proofs.YtlhbfcfjepbhpaaGreatDoor
open Go Go.RowKit
structure Enc (α : Type) where
 v : α → Value
 x : α → AV
 den : ∀ a ρ H, (x a).den ρ H = v a
 wf : ∀ a w S ρ H, WF w S ρ H (x a)
section
variable {P : Program} {w : World}
theorem zE1 {t : TypeId} {d : TypeDesc} (h : P.underlying t = some d) : (underlying t).run P w = .ok d w := by unfold underlying; simp [h]
theorem mp_get {b ck : Nat} {ms : Array MapEntry} (h : w.heap[b]? = some (.map ms ck)) : (getObj b).run P w = .ok (.map ms ck) w := by
 unfold getObj
 simp [Sem.run, h]
theorem mp_put {B ck : Nat} {ob : Obj} {ms : Array MapEntry} (h : w.heap[B]? = some (.map ms ck)) : (setObj B ob).run P w = .ok () (zB w B ob) := by
 unfold setObj
 simp [Sem.run, h, zB]
def kpos {α : Type} [DecidableEq α] (a : α) : List α → Nat → Option Nat
 | [], _ => none
 | b :: l, i => if a = b then some i else kpos a l (i + 1)
structure KeyOk (P : Program) (kt : TypeId) {α : Type} [DecidableEq α] (e : Enc α) : Prop where
 chk : ∀ b a w, (Instr.checkKey b 10000 kt (e.v a)).run P w = .ok () w
 bits : ∀ a, Instr.sameBits 10000 (e.v a) (e.v a) = true
 find : ∀ (ms : List MapEntry) (l : List α) a w, ms.map (·.key) = l.map e.v → ∃ r, (Instr.findKey kt (e.v a) ms).run P w = .ok r w ∧ (kpos a l 0 = none → r = none) ∧ ∀ i, kpos a l 0 = some i → ∃ m, ms[i]? = some m ∧ r = some (i, m.val)
theorem findNow_of {α : Type} [DecidableEq α] {e : Enc α} {d : TypeDesc} (hn : ∀ a b, Instr.sameNow d (e.v a) (e.v b) = some (decide (a = b))) (a : α) : ∀ (ms : List MapEntry) (l : List α) (i : Nat), ms.map (·.key) = l.map e.v → ∃ r, Instr.findNow d (e.v a) ms i = some r ∧ (kpos a l i = none → r = none) ∧ ∀ j, kpos a l i = some j → ∃ m, i ≤ j ∧ ms[j - i]? = some m ∧ r = some (j, m.val)
 | [], [], i, _ => ⟨none, rfl, fun _ => rfl, fun j h => (by cases h)⟩
 | [], _ :: _, _, h => (by simp at h)
 | _ :: _, [], _, h => (by simp at h)
 | m :: ms, b :: l, i, h => by
  simp only [List.map_cons, List.cons.injEq] at h
  unfold Instr.findNow kpos
  rw [h.1, hn]
  by_cases hab : a = b
  ·rw [decide_eq_true hab, if_pos hab]
   exact ⟨_, rfl, fun h => (by cases h), fun j hj => (by injection hj with hj; subst hj; exact ⟨m, Nat.le_refl _, by simp, rfl⟩)⟩
  ·rw [decide_eq_false hab, if_neg hab]
   obtain ⟨r, h1, h2, h3⟩ := findNow_of hn a ms l (i + 1) h.2
   refine ⟨r, h1, h2, fun j hj => ?_⟩
   obtain ⟨m', g1, g2, g3⟩ := h3 j hj
   exact ⟨m', by omega, by rw [show j - i = (j - (i + 1)) + 1 by omega, List.getElem?_cons_succ]; exact g2, g3⟩
theorem findAsk_of {α : Type} [DecidableEq α] {e : Enc α} {kt : TypeId} (he : ∀ a b w, (Op.equal kt (e.v a) (e.v b)).run P w = .ok (decide (a = b)) w) (a : α) : ∀ (ms : List MapEntry) (l : List α) (i : Nat), ms.map (·.key) = l.map e.v → ∃ r, (Instr.findAsking kt (e.v a) ms i).run P w = .ok r w ∧ (kpos a l i = none → r = none) ∧ ∀ j, kpos a l i = some j → ∃ m, i ≤ j ∧ ms[j - i]? = some m ∧ r = some (j, m.val)
 | [], [], i, _ => ⟨none, rfl, fun _ => rfl, fun j h => (by cases h)⟩
 | [], _ :: _, _, h => (by simp at h)
 | _ :: _, [], _, h => (by simp at h)
 | m :: ms, b :: l, i, h => by
  simp only [List.map_cons, List.cons.injEq] at h
  unfold Instr.findAsking kpos
  simp only [Sem.run_bind]
  rw [h.1, he]
  simp only [Result.andThen_ok]
  by_cases hab : a = b
  ·rw [decide_eq_true hab, if_pos hab, if_pos rfl]
   exact ⟨_, rfl, fun h => (by cases h), fun j hj => (by injection hj with hj; subst hj; exact ⟨m, Nat.le_refl _, by simp, rfl⟩)⟩
  ·rw [decide_eq_false hab, if_neg hab, if_neg (by simp)]
   obtain ⟨r, h1, h2, h3⟩ := findAsk_of he a ms l (i + 1) h.2
   refine ⟨r, h1, h2, fun j hj => ?_⟩
   obtain ⟨m', g1, g2, g3⟩ := h3 j hj
   exact ⟨m', by omega, by rw [show j - i = (j - (i + 1)) + 1 by omega, List.getElem?_cons_succ]; exact g2, g3⟩
theorem KeyOk.now {kt : TypeId} {α : Type} [DecidableEq α] {e : Enc α} {d : TypeDesc} (hu : P.underlying kt = some d) (hn : ∀ a b, Instr.sameNow d (e.v a) (e.v b) = some (decide (a = b))) (hc : ∀ b a w, (Instr.checkKey b 10000 kt (e.v a)).run P w = .ok () w) (hb : ∀ a, Instr.sameBits 10000 (e.v a) (e.v a) = true) : KeyOk P kt e :=
 ⟨hc, hb, fun ms l a w h => by
  obtain ⟨r, h1, h2, h3⟩ := findNow_of hn a ms l 0 h
  refine ⟨r, ?_, h2, fun i hi => ?_⟩
  ·unfold Instr.findKey
   simp only [Sem.run_bind, zE1 hu, Result.andThen_ok, h1]
   rfl
  ·obtain ⟨m, _, g2, g3⟩ := h3 i hi
   exact ⟨m, g2, g3⟩⟩
theorem KeyOk.ask {kt : TypeId} {α : Type} [DecidableEq α] {e : Enc α} {d : TypeDesc} (hu : P.underlying kt = some d) (hn : ∀ a b, Instr.sameNow d (e.v a) (e.v b) = none) (he : ∀ a b w, (Op.equal kt (e.v a) (e.v b)).run P w = .ok (decide (a = b)) w) (hc : ∀ b a w, (Instr.checkKey b 10000 kt (e.v a)).run P w = .ok () w) (hb : ∀ a, Instr.sameBits 10000 (e.v a) (e.v a) = true) : KeyOk P kt e :=
 ⟨hc, hb, fun ms l a w h => by
  obtain ⟨r, h1, h2, h3⟩ := findAsk_of (w := w) he a ms l 0 h
  cases ms with
  | nil =>
   cases l with
   | nil => exact ⟨none, by unfold Instr.findKey; simp only [Sem.run_bind, zE1 hu, Result.andThen_ok, Instr.findNow]; rfl, fun _ => rfl, fun i hi => (by cases hi)⟩
   | cons b l => simp at h
  | cons m ms =>
   cases l with
   | nil => simp at h
   | cons b l =>
    refine ⟨r, ?_, h2, fun i hi => ?_⟩
    ·unfold Instr.findKey
     simp only [Sem.run_bind, zE1 hu, Result.andThen_ok, Instr.findNow]
     have hk : m.key = e.v b := by simpa using (List.cons.inj h).1
     rw [hk, hn]
     exact h1
    ·obtain ⟨m, _, g2, g3⟩ := h3 i hi
     exact ⟨m, g2, g3⟩⟩
end
abbrev mpO {α β : Type} (ke : Enc α) (ve : Enc β) (l : List (Nat × α × β)) (ck : Nat) : OB := .map (l.map fun e => (e.1, ke.v e.2.1, .s (ve.v e.2.2))) ck
def mget {α β : Type} [DecidableEq α] : List (Nat × α × β) → α → Option β
 | [], _ => none
 | e :: l, a => if a = e.2.1 then some e.2.2 else mget l a
def mset {α β : Type} [DecidableEq α] (ck : Nat) (a : α) (b : β) : List (Nat × α × β) → List (Nat × α × β)
 | [] => [(ck, a, b)]
 | e :: l => if a = e.2.1 then (e.1, a, b) :: l else e :: mset ck a b l
def mclk {α β : Type} [DecidableEq α] (ck : Nat) (a : α) (l : List (Nat × α × β)) : Nat := if (mget l a).isSome then ck else ck + 1
theorem zh2 {α β : Type} [DecidableEq α] {ck : Nat} {a c : α} {b : β} : ∀ {l : List (Nat × α × β)}, mget (mset ck a b l) c = if c = a then some b else mget l c
 | [] => by simp [mset, mget]
 | e :: l => by
  unfold mset
  by_cases h : a = e.2.1
  ·rw [if_pos h]
   simp only [mget]
   by_cases hc : c = a
   ·rw [if_pos hc, if_pos hc]
   ·rw [if_neg hc, if_neg hc, if_neg (by rw [← h]; exact hc)]
  ·rw [if_neg h]
   simp only [mget]
   by_cases hc : c = e.2.1
   ·rw [if_pos hc, if_pos hc, if_neg (by rw [hc]; exact fun h' => h h'.symm)]
   ·rw [if_neg hc, if_neg hc, zh2]
theorem kpos_mget {α β : Type} [DecidableEq α] {a : α} : ∀ (l : List (Nat × α × β)) (i : Nat), (kpos a (l.map (·.2.1)) i = none → mget l a = none) ∧ ∀ j, kpos a (l.map (·.2.1)) i = some j → i ≤ j ∧ ∃ e, l[j - i]? = some e ∧ mget l a = some e.2.2 ∧ e.2.1 = a
 | [], i => ⟨fun _ => rfl, fun j h => (by cases h)⟩
 | e :: l, i => by
  simp only [List.map_cons, kpos, mget]
  by_cases h : a = e.2.1
  ·rw [if_pos h, if_pos h]
   exact ⟨fun h => (by cases h), fun j hj => (by injection hj with hj; subst hj; exact ⟨Nat.le_refl _, e, by simp, rfl, h.symm⟩)⟩
  ·rw [if_neg h, if_neg h]
   obtain ⟨h1, h2⟩ := kpos_mget (a := a) l (i + 1)
   refine ⟨h1, fun j hj => ?_⟩
   obtain ⟨g1, e', g2, g3⟩ := h2 j hj
   exact ⟨by omega, e', by rw [show j - i = (j - (i + 1)) + 1 by omega, List.getElem?_cons_succ]; exact g2, g3⟩
theorem mset_none {α β : Type} [DecidableEq α] {ck : Nat} {a : α} {b : β} : ∀ {l : List (Nat × α × β)}, mget l a = none → mset ck a b l = l ++ [(ck, a, b)]
 | [], _ => rfl
 | e :: l, h => by
  simp only [mget] at h
  split at h
  ·cases h
  ·rename_i hne
   simp only [mset]
   rw [if_neg hne, mset_none h]; rfl
theorem mset_some {α β : Type} [DecidableEq α] {ck : Nat} {a : α} {b : β} : ∀ {l : List (Nat × α × β)} {i j : Nat}, kpos a (l.map (·.2.1)) i = some j → i ≤ j ∧ mset ck a b l = l.modify (j - i) (fun e => (e.1, a, b))
 | [], _, _, h => (by cases h)
 | e :: l, i, j, h => by
  simp only [List.map_cons, kpos] at h
  simp only [mset]
  split at h
  ·rename_i he
   injection h with h
   subst h
   rw [if_pos he]
   exact ⟨Nat.le_refl _, by simp⟩
  ·rename_i he
   obtain ⟨h1, h2⟩ := mset_some (ck := ck) (b := b) h
   rw [if_neg he, h2]
   exact ⟨by omega, by rw [show j - i = (j - (i + 1)) + 1 by omega]; rfl⟩
section
variable {P : Program} {N : Nat} {E : Env} {F : Fm} {H : List OB} {o : Oper} {S : Nat → Prop} {ρ : List (Option Nat)} {a : Act} {w : World}
theorem ef_mkmap {t : TypeId} {d : Nat} (ho : o.op = .makeMap t none) (hd : o.dst = some d) (hN : d < N) : Ef P N E o F H fun F' H' => F' = (d, .mp H.length) :: F ∧ H' = H ++ [.map [] 0] :=
 ef_of hd hN ⟨rfl, rfl⟩ fun S ρ a w hR => by
  refine ⟨S, ρ ++ [some w.heap.size], w.alloc (.map #[] 0), ?_, ?_, .mp (by simp) (by simp [zo1, hR.hp.len])⟩
  ·have : (AV.mp H.length).den (ρ ++ [some w.heap.size]) (H ++ [.map [] 0]) = .map (some w.heap.size) := by simp [AV.den, zo1, hR.hp.len]
   rw [this]
   simp only [execOp, ho, Instr.makeMap, Option.map_none, Sem.run_bind, Sem.run_pure, Result.andThen_ok, run_newObj, World.alloc_eq]
  ·exact hR.newO (.map #[] 0) (.map [] 0) ⟨_, #[], rfl, zH2 _ _, rfl, fun e h => (by cases h)⟩
theorem mp_own {α β : Type} {ke : Enc α} {ve : Enc β} {l : List (Nat × α × β)} {ck b : Nat} (hp : RH w S ρ H) (hb : H[b]? = some (mpO ke ve l ck)) : ∃ B ms, atB ρ b = some B ∧ w.heap[B]? = some (.map ms ck) ∧ ms.toList = l.map (fun e => (⟨ke.v e.2.1, ve.v e.2.2, e.1⟩ : MapEntry)) := by
 obtain ⟨B, ms, h1, h2, h3, h4⟩ := hp.blk b _ hb
 exact ⟨B, ms, h1, h2, by rw [h3, List.map_map]; rfl⟩
theorem rd_lookup {α β : Type} [DecidableEq α] {ke : Enc α} {ve : Enc β} {t kt et : TypeId} {x ix : Operand} {b ck : Nat} {l : List (Nat × α × β)} {k : α} {xk : AV} {z : β} (hk : KeyOk P kt ke) (ho : o.op = .lookup t x ix false) (ht : P.underlying t = some (.map kt et)) (hz : (P.info? et).bind (·.zero) = some (ve.v z))
    (hx : ev F x = some (.mp b)) (hH : H[b]? = some (mpO ke ve l ck)) (hi : ev F ix = some xk) (hxk : ∀ ρ H, xk.den ρ H = ke.v k) : Rd P N E o F H (ve.x ((mget l k).getD z)) := fun S ρ a w hR => by
 obtain ⟨h1, _⟩ := hR.ev hx
 have h2 := (hR.ev hi).1
 rw [hxk] at h2
 obtain ⟨B, ms, g1, g2, g3⟩ := mp_own hR.hp hH
 simp only [AV.den, g1] at h1
 obtain ⟨r, f1, f2, f3⟩ := hk.find ms.toList (l.map (·.2.1)) k w (by rw [g3, List.map_map, List.map_map]; rfl)
 obtain ⟨q1, q2⟩ := kpos_mget (a := k) l 0
 have hzr : (zeroValue et).run P w = .ok (ve.v z) w := by
  unfold zeroValue typeInfo
  cases hi : P.info? et with
  | none => rw [hi] at hz; cases hz
  | some i => rw [hi] at hz; simp only [Option.bind_some] at hz; simp [hi, hz]
 refine ⟨?_, ve.wf _ _ _ _ _⟩
 rw [ve.den]
 cases hp : kpos k (l.map (·.2.1)) 0 with
 | none =>
  rw [f2 hp] at f1
  rw [q1 hp]
  simp only [execOp, ho, h1, h2, Instr.lookup, Sem.run_bind, zE1 ht, Result.andThen_ok, mp_get g2, Sem.run_pure, hk.chk, f1, hzr]
  rfl
 | some j =>
  obtain ⟨m, f4, f5⟩ := f3 j hp
  obtain ⟨_, e, q3, q4, _⟩ := q2 j hp
  rw [f5] at f1
  have hm : m.val = ve.v e.2.2 := by
   rw [g3, List.getElem?_map] at f4
   rw [Nat.sub_zero] at q3
   rw [q3] at f4
   simp only [Option.map_some, Option.some.injEq] at f4
   rw [← f4]
  rw [q4]
  simp only [execOp, ho, h1, h2, Instr.lookup, Sem.run_bind, zE1 ht, Result.andThen_ok, mp_get g2, Sem.run_pure, hk.chk, f1, hm]
  rfl
theorem ef_mapset {α β : Type} [DecidableEq α] {ke : Enc α} {ve : Enc β} {t kt et : TypeId} {x ix y : Operand} {b ck : Nat} {l : List (Nat × α × β)} {k : α} {xk yv : AV} {z : β} (hk : KeyOk P kt ke) (ho : o.op = .mapUpdate t x ix y) (hd : o.dst = none) (ht : P.underlying t = some (.map kt et))
    (hx : ev F x = some (.mp b)) (hH : H[b]? = some (mpO ke ve l ck)) (hi : ev F ix = some xk) (hxk : ∀ ρ H, xk.den ρ H = ke.v k) (hy : ev F y = some yv) (hyv : ∀ ρ H, yv.den ρ H = ve.v z) :
    Ef P N E o F H fun F' H' => F' = F ∧ H' = H.set b (mpO ke ve (mset ck k z l) (mclk ck k l)) := fun S ρ a w hR => by
 obtain ⟨h1, _⟩ := hR.ev hx
 have h2 := (hR.ev hi).1
 have h3 := (hR.ev hy).1
 rw [hxk] at h2
 rw [hyv] at h3
 obtain ⟨B, ms, g1, g2, g3⟩ := mp_own hR.hp hH
 simp only [AV.den, g1] at h1
 obtain ⟨r, f1, f2, f3⟩ := hk.find ms.toList (l.map (·.2.1)) k w (by rw [g3, List.map_map, List.map_map]; rfl)
 obtain ⟨q1, q2⟩ := kpos_mget (a := k) l 0
 have fin : ∀ ms' : Array MapEntry, ms'.toList = (mset ck k z l).map (fun e => (⟨ke.v e.2.1, ve.v e.2.2, e.1⟩ : MapEntry)) → (execOp a.eval o).run P w = .ok .skip (zB w B (.map ms' (mclk ck k l))) → effO P o a w fun a' w' => ∃ S' ρ' F' H', (F' = F ∧ H' = H.set b (mpO ke ve (mset ck k z l) (mclk ck k l))) ∧ R N E S' ρ' F' H' a' w' := fun ms' hms hex => by
  unfold effO
  rw [hex]
  refine ⟨S, ρ, _, _, ⟨rfl, rfl⟩, ?_⟩
  rw [hd]
  refine R.set (ob := mpO ke ve l ck) hR hH g1 rfl rfl (fun _ => rfl) (zg2 _ _) ⟨B, ms', rfl, zx2 g2, by rw [hms, List.map_map]; rfl, fun e he => ?_⟩
  obtain ⟨e', _, rfl⟩ := List.mem_map.1 he
  exact .s _
 cases hp : kpos k (l.map (·.2.1)) 0 with
 | none =>
  rw [f2 hp] at f1
  have hn := q1 hp
  refine fin (ms.push ⟨ke.v k, ve.v z, ck⟩) ?_ ?_
  ·rw [mset_none hn, Array.toList_push, g3, List.map_append]; rfl
  ·have : mclk ck k l = ck + 1 := by unfold mclk; rw [hn]; rfl
   rw [this]
   simp only [execOp, ho, h1, h2, h3, Instr.mapUpdate, Sem.run_bind, zE1 ht, Result.andThen_ok, mp_get g2, hk.chk, f1, mp_put g2, Sem.run_pure]
 | some j =>
  obtain ⟨m, f4, f5⟩ := f3 j hp
  obtain ⟨_, e, q3, q4, q5⟩ := q2 j hp
  rw [f5] at f1
  rw [Nat.sub_zero] at q3
  have hmk : m.key = ke.v k := by
   rw [g3, List.getElem?_map, q3] at f4
   simp only [Option.map_some, Option.some.injEq] at f4
   rw [← f4, ← q5]
  have hst : (Instr.keyThatStays (((ms[j]?).map (·.key)).getD (ke.v k)) (ke.v k)).run P w = .ok (ke.v k) w := by
   rw [← Array.getElem?_toList, f4]
   simp only [Option.map_some, Option.getD_some, hmk]
   unfold Instr.keyThatStays
   rw [if_pos (hk.bits k)]
   rfl
  refine fin (ms.modify j fun e => { e with key := ke.v k, val := ve.v z }) ?_ ?_
  ·obtain ⟨_, q6⟩ := mset_some (ck := ck) (b := z) hp
   rw [q6, Array.toList_modify, g3, Nat.sub_zero]
   refine List.ext_getElem? fun i => ?_
   simp only [List.getElem?_modify, List.getElem?_map]
   cases hl : l[i]? with
   | none => simp
   | some e2 => by_cases hij : j = i <;> simp [hij]
  ·have : mclk ck k l = ck := by unfold mclk; rw [q4]; rfl
   rw [this]
   simp only [execOp, ho, h1, h2, h3, Instr.mapUpdate, Sem.run_bind, zE1 ht, Result.andThen_ok, mp_get g2, hk.chk, f1, hst, mp_put g2, Sem.run_pure]
end
end Go.Proofs.YtlhbfcfjepbhpaaGreatDoor
