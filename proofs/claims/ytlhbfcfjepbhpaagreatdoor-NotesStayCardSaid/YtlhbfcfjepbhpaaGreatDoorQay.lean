/- The order of notes, by value: both functions; sameNote; errs. -/
import Derived.Test.YtlhbfcfjepbhpaaGreatDoorQax
set_option linter.unusedSimpArgs false
set_option linter.unusedVariables false
-- NEWM
namespace Go.Proofs.YtlhbfcfjepbhpaaGreatDoor
open Go Go.RowKit
set_option maxRecDepth 100000
def fstN : List Int → Int
 | [] => 0
 | a :: l => if a = 0 then fstN l else a
theorem fstN_drop {l : List Int} {k : Nat} {n : Int} (h : l[k]? = some n) : fstN (l.drop k) = if n = 0 then fstN (l.drop (k + 1)) else n := by
 obtain ⟨h1, h2⟩ := List.getElem?_eq_some_iff.1 h
 rw [List.drop_eq_getElem_cons h1, h2]; rfl
abbrev nR (l : List Int) : List (List CV) := l.map fun n => [I n]
theorem orJ_v (l : List Int) (v : Value) (hl : l.length ≤ 1000000) : ACalls Tryz.prog 87 [.c (.r v (nR l))] [] fun u H => u = .c (I (fstN l)) ∧ H = [] := by
 have e1 : (nR l).length = l.length := by simp
 refine zg (N := 18) Tryz.func87 rfl rfl (by simp) fun E hE => ?_
 refine WA ?_
 refine WA ?_
 refine WA ?_
 refine zC (fun m F H => ∃ (k : Nat), m + k = l.length ∧ fstN (l.drop k) = fstN l ∧ F = [(3, .c (I 0)), (6, .c (.r v (nR l))), (7, .c (I (nR l).length)), (8, .c (I k))] ∧ H = []) ?_ ?_
 ·refine zl [] (fun _ => [(3, .c (I 0)), (6, .c (.r v (nR l))), (7, .c (I (nR l).length)), (8, .c (I (0 : Nat)))]) (fun _ => []) (by decide) (ZNL hE) ZCF (fun _ => .nil) (fun _ => ?_)
  exact ⟨l.length, 0, by omega, rfl, rfl, rfl⟩
 rintro m F H ⟨k, hk, hf, rfl, rfl⟩
 refine WA ?_
 refine zq rfl (fun hlt => ?_) (fun hge => ?_)
 ·obtain ⟨n, hn⟩ : ∃ n, l[k]? = some n := ⟨_, List.getElem?_eq_getElem (by omega)⟩
  have hrow : (nR l)[k]? = some [I n] := by rw [List.getElem?_map, hn]; rfl
  have hd := fstN_drop hn
  refine WA ?_
  refine WA ?_
  refine zq rfl (fun hv => ?_) (fun hv => ?_)
  ·refine WA ?_
   exact zf [] _ rfl rfl rfl (by decide) (ZNK rfl) (fun _ => .nil) ⟨by rw [← hf, hd, if_neg hv], rfl⟩
  ·refine ZZ ?_
   refine WA ?_
   refine zl [] (fun _ => [(3, .c (I 0)), (6, .c (.r v (nR l))), (7, .c (I (nR l).length)), (8, .c (I (k + 1 : Nat)))]) (fun _ => []) (by decide) (ZNL hE) ZCF (fun _ => .nil) (fun _ => ?_)
   exact ⟨m - 1, by omega, k + 1, by omega, by rw [← hf, hd, if_pos (by omega)], rfl, rfl⟩
 refine ZZ ?_
 refine WA ?_
 exact zf [] _ rfl rfl rfl (by decide) (ZNK rfl) (fun _ => .nil) ⟨by rw [← hf, List.drop_eq_nil_of_le (by omega)]; rfl, rfl⟩
def cmpLs : List Int → List Int → Int
 | [], [] => 0
 | [], _ :: _ => -1
 | _ :: _, [] => 1
 | x :: a, y :: b => if cmpI x y ≠ 0 then cmpI x y else cmpLs a b
theorem drop_c {l : List Int} {k : Nat} {n : Int} (h : l[k]? = some n) : l.drop k = n :: l.drop (k + 1) := by
 obtain ⟨h1, h2⟩ := List.getElem?_eq_some_iff.1 h
 rw [List.drop_eq_getElem_cons h1, h2]
set_option maxHeartbeats 1000000 in
theorem compare_v (a b : List Int) (va vb : Value) (ha : a.length ≤ 1000000) (hb : b.length ≤ 1000000) : ACalls Tryz.prog 97 [.c (.r va (nR a)), .c (.r vb (nR b))] [] fun u H => u = .c (I (cmpLs a b)) ∧ H = [] := by
 have e1 : (nR a).length = a.length := by simp
 have e2 : (nR b).length = b.length := by simp
 refine zg (N := 36) Tryz.func97 rfl rfl (by simp) fun E hE => ?_
 refine WA ?_
 refine WA ?_
 refine zC (fun m F H => ∃ (k : Nat), m + k = a.length ∧ k ≤ b.length ∧ cmpLs (a.drop k) (b.drop k) = cmpLs a b ∧ F = [(0, .c (.r va (nR a))), (1, .c (.r vb (nR b))), (9, .c (.r va (nR a))), (10, .c (I (nR a).length)), (11, .c (I k))] ∧ H = []) ?_ ?_
 ·refine zl [] (fun _ => [(0, .c (.r va (nR a))), (1, .c (.r vb (nR b))), (9, .c (.r va (nR a))), (10, .c (I (nR a).length)), (11, .c (I (0 : Nat)))]) (fun _ => []) (by decide) (ZNL hE) ZCF (fun _ => .nil) (fun _ => ?_)
  exact ⟨a.length, 0, by omega, by omega, rfl, rfl, rfl⟩
 rintro m F H ⟨k, hk, hkb, hf, rfl, rfl⟩
 refine WA ?_
 refine zq rfl (fun hlt => ?_) (fun hge => ?_)
 ·obtain ⟨x, hx⟩ : ∃ n, a[k]? = some n := ⟨_, List.getElem?_eq_getElem (by omega)⟩
  have hrow : (nR a)[k]? = some [I x] := by rw [List.getElem?_map, hx]; rfl
  have hd := drop_c hx
  rw [hd] at hf
  refine WA ?_
  refine WA ?_
  refine zq rfl (fun h1 => ?_) (fun h1 => ?_)
  ·have hv : cmpLs a b = 1 := by rw [← hf, List.drop_eq_nil_of_le (show b.length ≤ k by omega)]; rfl
   rw [hv]
   refine WA ?_
   exact zf [] _ rfl rfl rfl (by decide) (ZNK rfl) (fun _ => .nil) ⟨rfl, rfl⟩
  obtain ⟨y, hy⟩ : ∃ n, b[k]? = some n := ⟨_, List.getElem?_eq_getElem (by omega)⟩
  have hrow2 : (nR b)[k]? = some [I y] := by rw [List.getElem?_map, hy]; rfl
  rw [drop_c hy, cmpLs] at hf
  refine ZZ ?_
  refine WA ?_
  refine WR ?_
  refine zh rfl (zc false (fun _ => cmpI_v _ _) rfl .fn rfl (by decide) (by kernel_rfl) rfl (fun _g => .cons (.c rfl) (.cons (.c rfl) .nil)) (by simp)) ?_
  rintro _ _ ⟨_, _, _, ⟨rfl, rfl⟩, hF, hH⟩
  (refine NST hF hH ?_; clear hF hH; rintro rfl rfl)
  refine WE ?_
  generalize cmpI x y = z at *
  refine WA ?_
  refine zq rfl (fun h0 => ?_) (fun h0 => ?_)
  ·rw [if_pos h0] at hf
   rw [← hf]
   refine WA ?_
   exact zf [] _ rfl rfl rfl (by decide) (ZNK rfl) (fun _ => .nil) ⟨rfl, rfl⟩
  ·rw [if_neg h0] at hf
   refine ZZ ?_
   refine WA ?_
   refine zl [] (fun _ => [(0, .c (.r va (nR a))), (1, .c (.r vb (nR b))), (9, .c (.r va (nR a))), (10, .c (I (nR a).length)), (11, .c (I (k + 1 : Nat)))]) (fun _ => []) (by decide) (ZNL hE) ZCF (fun _ => .nil) (fun _ => ?_)
   exact ⟨m - 1, by omega, k + 1, by omega, by omega, hf, rfl, rfl⟩
 rw [List.drop_eq_nil_of_le (show a.length ≤ k by omega)] at hf
 refine ZZ ?_
 refine WA ?_
 refine zq rfl (fun h0 => ?_) (fun h0 => ?_)
 ·have hv : cmpLs a b = -1 := by
   rw [← hf]
   cases hb2 : b.drop k with
   | nil => have := List.drop_eq_nil_iff.1 hb2; omega
   | cons y l => rfl
  rw [hv]
  refine WA ?_
  exact zf [] _ rfl rfl rfl (by decide) (ZNK rfl) (fun _ => .nil) ⟨rfl, rfl⟩
 ·have hv : cmpLs a b = 0 := by rw [← hf, List.drop_eq_nil_of_le (show b.length ≤ k by omega)]; rfl
  rw [hv]
  refine ZZ ?_
  refine WA ?_
  exact zf [] _ rfl rfl rfl (by decide) (ZNK rfl) (fun _ => .nil) ⟨rfl, rfl⟩
theorem cmpN_lt {m n : Int} : cmpI m n < 0 ↔ m < n := by unfold cmpI; split <;> (try split) <;> omega
theorem cmpN_0 {m n : Int} : cmpI m n = 0 ↔ m = n := by unfold cmpI; split <;> (try split) <;> omega
def cmpB : List UInt8 → List UInt8 → Int
 | [], [] => 0
 | [], _ :: _ => -1
 | _ :: _, [] => 1
 | x :: a, y :: b => if x = y then cmpB a b else if x < y then -1 else 1
theorem cmpB_eq : ∀ {a b : List UInt8}, cmpB a b = 0 ↔ a = b
 | [], [] => by simp [cmpB]
 | [], _ :: _ => by simp [cmpB]
 | _ :: _, [] => by simp [cmpB]
 | x :: a, y :: b => by
  unfold cmpB
  split
  ·rename_i h; rw [cmpB_eq]; simp [h]
  ·rename_i h; split <;> simp [h]
theorem cmpB_neg : ∀ {a b : List UInt8}, cmpB b a = - cmpB a b
 | [], [] => by simp [cmpB]
 | [], _ :: _ => by simp [cmpB]
 | _ :: _, [] => by simp [cmpB]
 | x :: a, y :: b => by
  unfold cmpB
  by_cases h : x = y
  ·subst h; rw [if_pos rfl, if_pos rfl, cmpB_neg]
  ·rw [if_neg h, if_neg (Ne.symm h)]
   have h2 : x.toNat ≠ y.toNat := fun e => h (UInt8.toNat_inj.1 e)
   by_cases h3 : x < y
   ·have h3' : x.toNat < y.toNat := h3
    rw [if_pos h3, if_neg (show ¬ y < x from fun e => by have : y.toNat < x.toNat := e; omega)]; rfl
   ·have h3' : ¬ x.toNat < y.toNat := h3
    rw [if_neg h3, if_pos (show y < x from by show y.toNat < x.toNat; omega)]
theorem cmpB_trans : ∀ {a b c : List UInt8}, cmpB a b < 0 → cmpB b c < 0 → cmpB a c < 0
 | [], [], _ => by simp [cmpB]
 | _, _ :: _, [] => by simp [cmpB]
 | [], _ :: _, _ :: _ => by simp [cmpB]
 | _ :: _, [], _ => by simp [cmpB]
 | x :: a, y :: b, z :: c => by
  intro h1 h2
  unfold cmpB at h1 h2 ⊢
  by_cases e1 : x = y
  ·subst e1
   rw [if_pos rfl] at h1
   by_cases e2 : x = z
   ·subst e2
    rw [if_pos rfl] at h2 ⊢
    exact cmpB_trans h1 h2
   ·rw [if_neg e2] at h2 ⊢; exact h2
  ·rw [if_neg e1] at h1
   split at h1
   ·rename_i h3
    have h3' : x.toNat < y.toNat := h3
    by_cases e2 : y = z
    ·subst e2; rw [if_neg e1, if_pos h3]; decide
    ·rw [if_neg e2] at h2
     split at h2
     ·rename_i h4
      have h4' : y.toNat < z.toNat := h4
      rw [if_neg (fun e => by subst e; omega), if_pos (show x < z from by show x.toNat < z.toNat; omega)]
      decide
     ·omega
   ·omega
theorem cmp_cmpB {a b : List UInt8} : ∀ (n i : Nat), i + n = min a.length b.length → (match (List.range' i n).find? (fun i => (bst a)[i]! != (bst b)[i]!) with | some i => if (bst a)[i]! < (bst b)[i]! then (-1 : Int) else 1 | none => if a.length < b.length then -1 else if a.length > b.length then 1 else 0) = cmpB (a.drop i) (b.drop i)
 | 0, i, h => by
  show (if a.length < b.length then (-1 : Int) else if a.length > b.length then 1 else 0) = _
  by_cases h1 : a.length < b.length
  ·rw [if_pos h1, List.drop_eq_nil_of_le (show a.length ≤ i by omega)]
   cases hb : b.drop i with
   | nil => have := List.drop_eq_nil_iff.1 hb; omega
   | cons y l => rfl
  ·rw [if_neg h1, List.drop_eq_nil_of_le (show b.length ≤ i by omega)]
   by_cases h2 : a.length > b.length
   ·rw [if_pos h2]
    cases ha : a.drop i with
    | nil => have := List.drop_eq_nil_iff.1 ha; omega
    | cons y l => rfl
   ·rw [if_neg h2, List.drop_eq_nil_of_le (show a.length ≤ i by omega)]; rfl
 | n + 1, i, h => by
  have hi : i < a.length := by omega
  have hj : i < b.length := by omega
  rw [List.drop_eq_getElem_cons hi, List.drop_eq_getElem_cons hj, List.range'_succ, List.find?_cons]
  have hg : ∀ (l : List UInt8) (hl : i < l.length), (bst l)[i]! = l[i] := fun l hl => by
   rw [getElem!_pos (bst l) i (by rw [zy1]; exact hl)]; rfl
  rw [hg a hi, hg b hj, cmpB]
  by_cases hc : a[i] = b[i]
  ·rw [if_pos hc, show (a[i] != b[i]) = false by simp [hc]]
   exact cmp_cmpB n (i + 1) (by omega)
  ·rw [if_neg hc, show (a[i] != b[i]) = true by simpa using hc]
   show (if (bst a)[i]! < (bst b)[i]! then (-1 : Int) else 1) = _
   rw [hg a hi, hg b hj]
theorem cmp_bst (a b : List UInt8) : Extern.BytealgCompare.cmp (bst a) (bst b) = cmpB a b := by
 have := cmp_cmpB (a := a) (b := b) (min a.length b.length) 0 (by omega)
 rw [List.drop_zero, List.drop_zero] at this
 rw [← this]
 unfold Extern.BytealgCompare.cmp
 rw [zy1, zy1, List.range_eq_range']
 cases (List.range' 0 (min a.length b.length)).find? fun i => (bst a)[i]! != (bst b)[i]! <;> rfl
theorem run_cmpstr {P : Program} (a b : List UInt8) (w : World) : (Extern.BytealgCompare.compare #[.string (bst a), .string (bst b)]).run P w = .ok (.int .i64 (cmpB a b)) w := by
 rw [← cmp_bst]
 show (do pure (goInt (Extern.BytealgCompare.cmp (← Extern.Bytes.bytesOf (.string (bst a))) (← Extern.Bytes.bytesOf (.string (bst b))))) : Sem Value).run P w = _
 rfl
theorem bcmp_v (a b : List UInt8) : ACalls Tryz.prog 148 [.c (T a), .c (T b)] [] fun u H => u = .c (I (cmpB a b)) ∧ H = [] := by
 refine zg (N := 8) Tryz.func148 rfl rfl (by simp) fun E hE => ?_
 repeat' (first
  | (with_reducible refine zI ?_) | (with_reducible refine zH ?_) | (with_reducible refine zK ?_) | (with_reducible refine zP ?_) | (with_reducible refine zM ?_) | (with_reducible refine zQ ?_) | (with_reducible refine zO rfl ?_) | (with_reducible refine zL ?_) | (with_reducible refine zu ?_) | (with_reducible refine zn ?_) | (with_reducible refine zJ ?_) | (with_reducible refine zz ?_)
  | refine zb rfl ?_ | refine za rfl ?_ | refine zw rfl (by assumption) ?_ | refine zt rfl (by assumption) ?_ | refine zq rfl (fun _ => ?_) (fun _ => ?_) | refine zp rfl (fun _ => ?_) (fun _ => ?_)
  | (refine zd (id := 1) ?_
     refine WO ?_
     refine ZA (rd_ext (us := [.string (bst a), .string (bst b)]) rfl rfl (fun _ _ => rfl) Tryz.func215 (by decide +kernel) rfl rfl rfl (fun w => run_cmpstr a b w)) ?_
     refine WE ?_)
  | (refine zd ?_; refine WE ?_))
 exact zf [] _ rfl rfl rfl (by decide) (ZNK rfl) (fun _ => .nil) ⟨rfl, rfl⟩
theorem scmp_v (a b : List UInt8) : ACalls Tryz.prog 89 [.c (T a), .c (T b)] [] fun u H => u = .c (I (cmpB a b)) ∧ H = [] := by
 refine zg (N := 8) Tryz.func89 rfl rfl (by simp) fun E hE => ?_
 repeat' (first
  | (with_reducible refine zI ?_) | (with_reducible refine zH ?_) | (with_reducible refine zK ?_) | (with_reducible refine zP ?_) | (with_reducible refine zM ?_) | (with_reducible refine zQ ?_) | (with_reducible refine zO rfl ?_) | (with_reducible refine zL ?_) | (with_reducible refine zu ?_) | (with_reducible refine zn ?_) | (with_reducible refine zJ ?_) | (with_reducible refine zz ?_)
  | refine zb rfl ?_ | refine za rfl ?_ | refine zw rfl (by assumption) ?_ | refine zt rfl (by assumption) ?_ | refine zq rfl (fun _ => ?_) (fun _ => ?_) | refine zp rfl (fun _ => ?_) (fun _ => ?_)
  | (refine zd (id := 1) ?_
     refine WO ?_
     refine zh rfl (zc false (fun _ => bcmp_v _ _) rfl .fn rfl (by decide) (by kernel_rfl) rfl (fun _ => C0 rfl) (by simp)) ?_
     rintro _ _ ⟨_, _, _, ⟨rfl, rfl⟩, hF, hH⟩
     (refine NST hF hH ?_; clear hF hH; rintro rfl rfl)
     refine WE ?_)
  | (refine zd ?_; refine WE ?_))
 exact zf [] _ rfl rfl rfl (by decide) (ZNK rfl) (fun _ => .nil) ⟨rfl, rfl⟩
end Go.Proofs.YtlhbfcfjepbhpaaGreatDoor
-- NEWM
namespace Go.Proofs.YtlhbfcfjepbhpaaGreatDoor
open Go Go.RowKit
set_option maxRecDepth 100000
def cmpNt (a b : Nt) : Int := fstN [cmpI a.at_ b.at_, cmpB a.st b.st, cmpI a.no b.no]
theorem zC2 (a b : Nt) : ACalls Tryz.prog 71 [noA a, noA b] [] fun u H => u = .c (I (cmpNt a b)) ∧ H = [] := by
 obtain ⟨a0, a1, a2, a3, a4, a5, a6, a7, a8, a9⟩ := a
 obtain ⟨c0, c1, c2, c3, c4, c5, c6, c7, c8, c9⟩ := b
 show ACalls _ _ [.a [.c (T a0), .c (I a1), .c (I a2), .c (I a3), .c (T a4), .c (T a5), .c (T a6), .c (I a7), .c (T a8), .c (I a9)], .a [.c (T c0), .c (I c1), .c (I c2), .c (I c3), .c (T c4), .c (T c5), .c (T c6), .c (I c7), .c (T c8), .c (I c9)]] [] _
 refine zg (N := 22) Tryz.func71 rfl rfl (by simp) fun E hE => ?_
 refine WA ?_
 refine ZZ ?_
 refine ze [(0, none), (1, none), (2, none), (3, none), (5, none), (6, none), (7, none), (8, none), (10, none), (11, none), (12, none), (13, none), (4, some [5, 6, 7, 8, 10, 11, 12, 13]), (9, some [10, 11, 12, 13]), (14, some []), (15, some []), (16, some []), (17, none)] zr (by kernel_rfl) ?_
 refine WP ?_
 refine zc2 rfl rfl (zc false (fun _ => cmpI_v _ _) rfl .fn rfl (by decide) (by kernel_rfl) rfl (fun _g => .cons (.c rfl) (.cons (.c rfl) .nil)) (by simp)) ?_
 rintro _ _ ⟨_, _, _, ⟨rfl, rfl⟩, hF, hH⟩
 (refine NST hF hH ?_; clear hF hH; rintro rfl rfl)
 refine ⟨zo (by first | exact zX rfl rfl rfl (ZX (KF (t := 39) (f := 0) rfl rfl)) rfl) (zo (by first | exact zX rfl rfl rfl (ZL (KK (t := 9) rfl)) rfl) (zo (by first | exact zX rfl rfl rfl (ZX (KF (t := 39) (f := 0) rfl rfl)) rfl) (zo (by first | exact zX rfl rfl rfl (ZL (KK (t := 9) rfl)) rfl) (zo (by first | exact zX rfl rfl rfl (ZX (KF (t := 39) (f := 1) rfl rfl)) rfl) (zo (by first | exact zX rfl rfl rfl (ZL (KK (t := 3) rfl)) rfl) (zo (by first | exact zX rfl rfl rfl (ZX (KF (t := 39) (f := 1) rfl rfl)) rfl) (zo (by first | exact zX rfl rfl rfl (ZL (KK (t := 3) rfl)) rfl) (zk)))))))), ?_⟩
 refine zc2 rfl rfl (zc false (fun _ => scmp_v _ _) rfl .fn rfl (by decide) (by kernel_rfl) rfl (fun _ => C0 rfl) (by simp)) ?_
 rintro _ _ ⟨_, _, _, ⟨rfl, rfl⟩, hF, hH⟩
 (refine NST hF hH ?_; clear hF hH; rintro rfl rfl)
 refine ⟨zo (by first | exact zX rfl rfl rfl (ZX (KF (t := 39) (f := 1) rfl rfl)) rfl) (zo (by first | exact zX rfl rfl rfl (ZL (KK (t := 3) rfl)) rfl) (zo (by first | exact zX rfl rfl rfl (ZX (KF (t := 39) (f := 1) rfl rfl)) rfl) (zo (by first | exact zX rfl rfl rfl (ZL (KK (t := 3) rfl)) rfl) (zk)))), ?_⟩
 refine zc2 rfl rfl (zc false (fun _ => cmpI_v _ _) rfl .fn rfl (by decide) (by kernel_rfl) rfl (fun _g => .cons (.c rfl) (.cons (.c rfl) .nil)) (by simp)) ?_
 rintro _ _ ⟨_, _, _, ⟨rfl, rfl⟩, hF, hH⟩
 (refine NST hF hH ?_; clear hF hH; rintro rfl rfl)
 refine ⟨zk, ?_⟩
 refine WP ?_
 refine zc2 rfl rfl (zc true (fun g => orJ_v [cmpI a2 c2, cmpB a0 c0, cmpI a1 c1] (g (.o 2 0 3 3)) (by simp)) rfl .fn rfl (by decide) (by kernel_rfl) rfl (fun _ => .cons (.frz rfl rfl rfl rfl rfl) .nil) (fun _ _ _ _ ⟨hu, hH⟩ => by rw [hu, hH]; exact ⟨.c (.inl trivial), by simp⟩)) ?_
 rintro _ _ ⟨_, _, _, ⟨rfl, rfl⟩, hF, hH⟩
 (refine NST hF hH ?_; clear hF hH; rintro rfl rfl)
 refine ⟨zk, ?_⟩
 refine WQ ?_
 all_goals exact zf [] _ rfl rfl rfl (by decide) (ZNK rfl) (fun _ => .nil) ⟨rfl, rfl⟩
theorem cmpLs1 (m n : Int) : cmpLs [m] [n] = cmpI m n := by
 unfold cmpLs
 split
 ·rfl
 ·rename_i h; rw [show cmpI m n = 0 by omega]; rfl
theorem norder_v (a b : Nt) : ACalls Tryz.prog 50 [noA a, noA b] [] fun u H => u = .c (I (cmpNt a b)) ∧ H = [] := by
 obtain ⟨a0, a1, a2, a3, a4, a5, a6, a7, a8, a9⟩ := a
 obtain ⟨c0, c1, c2, c3, c4, c5, c6, c7, c8, c9⟩ := b
 show ACalls _ _ [.a [.c (T a0), .c (I a1), .c (I a2), .c (I a3), .c (T a4), .c (T a5), .c (T a6), .c (I a7), .c (T a8), .c (I a9)], .a [.c (T c0), .c (I c1), .c (I c2), .c (I c3), .c (T c4), .c (T c5), .c (T c6), .c (I c7), .c (T c8), .c (I c9)]] [] fun u H => u = .c (I (fstN [cmpI a2 c2, cmpB a0 c0, cmpI a1 c1])) ∧ H = []
 refine zg (N := 34) Tryz.func50 rfl rfl (by simp) fun E hE => ?_
 refine WA ?_
 refine WA ?_
 refine zq rfl (fun h1 => ?_) (fun h1 => ?_)
 ·have hz : cmpI a2 c2 ≠ 0 := fun e => h1 (cmpN_0.1 e)
  refine WR ?_
  refine zh rfl (zc true (fun g => compare_v [a2] [c2] (g (.o _ 0 1 1)) (g (.o _ 0 1 1)) (by simp) (by simp)) rfl .fn rfl (by decide) (by kernel_rfl) rfl (fun _ => .cons (.frz rfl rfl rfl rfl rfl) (.cons (.frz rfl rfl rfl rfl rfl) .nil)) (fun _ _ _ _ ⟨hu, hH⟩ => by rw [hu, hH]; exact ⟨.c (.inl trivial), by simp⟩)) ?_
  rintro _ _ ⟨_, _, _, ⟨rfl, rfl⟩, hF, hH⟩
  (refine NST hF hH ?_; clear hF hH; rintro rfl rfl)
  refine WE ?_
  all_goals exact zf [] _ rfl rfl rfl (by decide) (ZNK rfl) (fun _ => .nil) ⟨by rw [cmpLs1, fstN, if_neg hz], rfl⟩
 have hz : cmpI a2 c2 = 0 := cmpN_0.2 (by omega)
 obtain ⟨q, hq⟩ : ∃ q, decide (a0 ≠ c0) = q := ⟨_, rfl⟩
 refine ZZ ?_
 refine ZR ?_
 iterate 4 refine WX1 ?_
 refine ZA (zb2 (a := a0) (b := c0) hq rfl Tryz.underlying9 rfl rfl) ?_
 refine WE ?_
 cases q with
 | true =>
  have hz2 : cmpB a0 c0 ≠ 0 := fun e => of_decide_eq_true hq (cmpB_eq.1 e)
  refine zb rfl ?_
  refine ZZ ?_
  refine WR ?_
  refine zh rfl (zc false (fun _ => scmp_v _ _) rfl .fn rfl (by decide) (by kernel_rfl) rfl (fun _ => C0 rfl) (by simp)) ?_
  rintro _ _ ⟨_, _, _, ⟨rfl, rfl⟩, hF, hH⟩
  (refine NST hF hH ?_; clear hF hH; rintro rfl rfl)
  refine WE ?_
  exact zf [] _ rfl rfl rfl (by decide) (ZNK rfl) (fun _ => .nil) ⟨by rw [fstN, if_pos hz, fstN, if_neg hz2], rfl⟩
 | false =>
  have hz2 : cmpB a0 c0 = 0 := cmpB_eq.2 (Decidable.not_not.1 (of_decide_eq_false hq))
  refine za rfl ?_
  refine ZZ ?_
  refine WR ?_
  refine zh rfl (zc true (fun g => compare_v [a1] [c1] (g (.o _ 0 1 1)) (g (.o _ 0 1 1)) (by simp) (by simp)) rfl .fn rfl (by decide) (by kernel_rfl) rfl (fun _ => .cons (.frz rfl rfl rfl rfl rfl) (.cons (.frz rfl rfl rfl rfl rfl) .nil)) (fun _ _ _ _ ⟨hu, hH⟩ => by rw [hu, hH]; exact ⟨.c (.inl trivial), by simp⟩)) ?_
  rintro _ _ ⟨_, _, _, ⟨rfl, rfl⟩, hF, hH⟩
  (refine NST hF hH ?_; clear hF hH; rintro rfl rfl)
  refine WE ?_
  all_goals (refine zf [] _ rfl rfl rfl (by decide) (ZNK rfl) (fun _ => .nil) ⟨?_, rfl⟩)
  all_goals (rw [cmpLs1, fstN, if_pos hz, fstN, if_pos hz2, fstN])
  all_goals (by_cases h : cmpI a1 c1 = 0)
  all_goals first | rw [if_neg h] | (rw [if_pos h, h]; rfl)
theorem cmpNt_neg (a b : Nt) : cmpNt b a = - cmpNt a b := by
 have hI : ∀ m n, cmpI n m = - cmpI m n := fun m n => by unfold cmpI; split <;> (try split) <;> (try split) <;> omega
 unfold cmpNt
 simp only [fstN, hI a.at_, hI a.no, cmpB_neg (a := a.st)]
 split <;> split <;> (try split) <;> (try split) <;> (try split) <;> omega
theorem cmpNt_lt (a b : Nt) : cmpNt a b < 0 ↔ a.at_ < b.at_ ∨ (a.at_ = b.at_ ∧ (cmpB a.st b.st < 0 ∨ (a.st = b.st ∧ a.no < b.no))) := by
 have h1 := @cmpN_lt a.at_ b.at_
 have h2 := @cmpN_0 a.at_ b.at_
 have h3 := @cmpN_lt a.no b.no
 have h4 := @cmpB_eq a.st b.st
 unfold cmpNt
 simp only [fstN]
 split
 ·rename_i e
  split
  ·rename_i e2
   rw [← h4]
   split <;> omega
  ·rename_i e2
   rw [← h4]; omega
 ·rename_i e; omega
theorem cmpNt_trans {a b c : Nt} (h1 : cmpNt a b < 0) (h2 : cmpNt b c < 0) : cmpNt a c < 0 := by
 rw [cmpNt_lt] at *
 rcases h1 with h1 | ⟨e1, h1⟩ <;> rcases h2 with h2 | ⟨e2, h2⟩
 ·left; omega
 ·left; omega
 ·left; omega
 ·right
  refine ⟨by omega, ?_⟩
  rcases h1 with h1 | ⟨f1, h1⟩ <;> rcases h2 with h2 | ⟨f2, h2⟩
  ·exact .inl (cmpB_trans h1 h2)
  ·exact .inl (f2 ▸ h1)
  ·exact .inl (f1 ▸ h2)
  ·exact .inr ⟨f1.trans f2, by omega⟩
theorem cmpNt_0 (a b : Nt) : cmpNt a b = 0 ↔ a.at_ = b.at_ ∧ a.st = b.st ∧ a.no = b.no := by
 have h2 := @cmpN_0 a.at_ b.at_
 have h3 := @cmpN_0 a.no b.no
 have h4 := @cmpB_eq a.st b.st
 unfold cmpNt
 simp only [fstN]
 rw [← h2, ← h3, ← h4]
 split
 ·split
  ·split <;> simp_all
  ·simp_all
 ·simp_all
end Go.Proofs.YtlhbfcfjepbhpaaGreatDoor
