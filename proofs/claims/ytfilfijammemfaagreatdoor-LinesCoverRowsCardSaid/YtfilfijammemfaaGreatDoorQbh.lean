/- Plans of layers, by value: the program's and the reference's. -/
import Derived.Test.YtfilfijammemfaaGreatDoorQbd
import Derived.Test.YtfilfijammemfaaGreatDoorQbg
import Derived.Test.YtfilfijammemfaaGreatDoorQbc
import Derived.Test.YtfilfijammemfaaGreatDoorQay
set_option linter.unusedSimpArgs false
set_option linter.unusedVariables false
-- NEWM
-- NILC
namespace Go.Proofs.YtfilfijammemfaaGreatDoor
open Go Go.RowKit
set_option maxRecDepth 100000
theorem centq_v (va : Value) (c : Cel) (hs : 1 ≤ c.st ∧ c.st ≤ 10000) (x y : Int) (hx : -20000000 ≤ x ∧ x ≤ 20000000) (hy : -20000000 ≤ y ∧ y ≤ 20000000) : ACalls Tryz.prog 99 [celA va c, .a [.c (I x), .c (I y)]] [] fun u H => u = .a [.c (I (x * c.st + c.st / 2)), .c (I (y * c.st + c.st / 2))] ∧ H = [] := by
 have ehf : wrap64 (c.st.tdiv 2) = c.st / 2 := by
  rw [Int.tdiv_eq_ediv_of_nonneg (by omega)]
  exact IntWalk.wrap64_in _ (by constructor <;> omega)
 have hmul : ∀ z : Int, -20000000 ≤ z ∧ z ≤ 20000000 → -200000000000 ≤ z * c.st ∧ z * c.st ≤ 200000000000 := fun z hz => by
  have h : (z * c.st).natAbs ≤ 20000000 * 10000 := by rw [Int.natAbs_mul]; exact Nat.mul_le_mul (by omega) (by omega)
  omega
 have h1 := hmul x hx
 have h2 := hmul y hy
 have h3 : 0 ≤ c.st / 2 ∧ c.st / 2 ≤ 5000 := by omega
 refine ze (N := 24) Tryz.func99 rfl rfl (by simp) fun E hE => ?_
 refine WA ?_
 refine ZR ?_
 iterate 7 refine WX1 ?_
 refine ZA (rd_quoP (z := c.st / 2) rfl rfl rfl (by decide) ehf) ?_
 iterate 8 refine WX1 ?_
 refine ZA (rd_quoP (z := c.st / 2) rfl rfl rfl (by decide) ehf) ?_
 refine WE ?_
 exact aret_a [] _ rfl (KK (t := 107) rfl) rfl (Cells.box rfl) (by first | (simp; done) | exact Nat.le_refl 2) (by (try simp only [nm, putL, Nat.reduceAdd, cellsOf, cvOf]) <;> rfl) (by decide) (ZNK rfl) (fun _ => C0 rfl) (fun _ => .nil) ⟨rfl, rfl⟩
end Go.Proofs.YtfilfijammemfaaGreatDoor
-- NILC
namespace Go.Proofs.YtfilfijammemfaaGreatDoor
open Go Go.RowKit
set_option maxRecDepth 100000
end Go.Proofs.YtfilfijammemfaaGreatDoor
namespace Go.Proofs.YtfilfijammemfaaGreatDoor
theorem celN_self {c : Cel} (h : RCel c) : celN c.st (covL c) = c := by
 by_cases hr : c.rows = []
 ·have e : covL c = [] := by unfold covL; rw [hr]; rfl
  obtain ⟨h1, h2⟩ := h.emp hr
  rw [celN, if_pos e]
  obtain ⟨st, x, y, rows⟩ := c
  simp only at h1 h2 hr
  rw [h1, h2, hr]
 have hs := span_tight (fun r hr => (h.row r hr).1) hr
 rw [h.tight hr] at hs
 unfold spanB at hs
 simp only [Bool.and_eq_true, decide_eq_true_iff] at hs
 obtain ⟨⟨⟨⟨s1, s2⟩, s3⟩, s4⟩, s5⟩ := hs
 obtain ⟨a1, a2⟩ := h.at
 have hrow := h.row
 rw [celN, if_neg s1, s2, s3, s4, s5, a1, a2]
 have e1 : (c.y.tdiv c.st + (c.rows.length : Int) - 1 - c.y.tdiv c.st + 1).toNat = c.rows.length := by omega
 have e2 : (c.x.tdiv c.st + (wid c.rows : Int) - 1 - c.x.tdiv c.st + 1).toNat = wid c.rows := by omega
 rw [e1, e2]
 have e3 : ((List.range c.rows.length).map fun i => rowB (covL c) (c.x.tdiv c.st) (c.y.tdiv c.st + (i : Nat)) (wid c.rows)) = c.rows := by
  apply List.ext_getElem
  ·simp
  ·intro i h1 h2
   rw [List.getElem_map, List.getElem_range]
   obtain ⟨w1, w2⟩ := hrow c.rows[i] (List.getElem_mem h2)
   apply List.ext_getElem
   ·rw [rowB_len, w1]
   ·intro k k1 k2
    simp only [rowB, List.getElem_map, List.getElem_range]
    have hm : (c.x.tdiv c.st + (k : Nat), c.y.tdiv c.st + (i : Nat)) ∈ covL c ↔ c.rows[i][k] = 35 := by
     unfold covL
     rw [hitC_mem]
     constructor
     ·rintro ⟨i', k', r, q1, q2, q3⟩
      obtain ⟨q4, q5⟩ := Prod.mk.inj q3
      obtain rfl : k = k' := by omega
      obtain rfl : i = i' := by omega
      obtain ⟨_, q6⟩ := List.getElem?_eq_some_iff.1 q1
      subst q6
      exact (List.getElem?_eq_some_iff.1 q2).2
     ·intro q
      exact ⟨i, k, c.rows[i], List.getElem?_eq_getElem h2, by rw [List.getElem?_eq_getElem k2, q], rfl⟩
    have hb : c.rows[i][k] = 35 ∨ c.rows[i][k] = 46 := by
     unfold okB2 at w2
     have := List.all_eq_true.1 w2 _ (List.getElem_mem k2)
     simpa using this
    by_cases e : c.rows[i][k] = 35
    ·rw [if_pos (hm.2 e), e]
    ·rw [if_neg (fun q => e (hm.1 q))]
     exact (hb.resolve_left e).symm
 rw [e3]
theorem normC_is {c : Cel} (h : NCel c) {L S : List Spot} (hS : ∀ p ∈ S, p ∈ covL c) (e : ∀ p, p ∈ L ↔ p ∈ S) : normC c.st L = (celN c.st S, 0) := by
 rw [normC_mem e]; exact (normC_ok h hS).1
end Go.Proofs.YtfilfijammemfaaGreatDoor
-- NEWM
namespace Go.Proofs.YtfilfijammemfaaGreatDoor
open Go Go.RowKit
set_option maxRecDepth 100000
end Go.Proofs.YtfilfijammemfaaGreatDoor
-- NEWM
namespace Go.Proofs.YtfilfijammemfaaGreatDoor
open Go Go.RowKit
set_option maxRecDepth 100000
end Go.Proofs.YtfilfijammemfaaGreatDoor
-- NEWM
namespace Go.Proofs.YtfilfijammemfaaGreatDoor
open Go Go.RowKit
set_option maxRecDepth 100000
def fstN : List Int → Int
 | [] => 0
 | a :: l => if a = 0 then fstN l else a
theorem fstN_drop {l : List Int} {k : Nat} {n : Int} (h : l[k]? = some n) : fstN (l.drop k) = if n = 0 then fstN (l.drop (k + 1)) else n := by
 obtain ⟨h1, h2⟩ := List.getElem?_eq_some_iff.1 h
 rw [List.drop_eq_getElem_cons h1, h2]; rfl
abbrev nR (l : List Int) : List (List CV) := l.map fun n => [I n]
end Go.Proofs.YtfilfijammemfaaGreatDoor
-- NEWM
namespace Go.Proofs.YtfilfijammemfaaGreatDoor
open Go Go.RowKit
set_option maxRecDepth 100000
theorem rd_neqsqs {P : Program} {N : Nat} {E : Env} {F : Fm} {H : List OB} {o : Oper} {t yt : TypeId} {x y : Operand} {a b : List UInt8} {q : Bool} (h : decide (a ≠ b) = q) (ho : o.op = .binOp .neq t x y yt) (ht : P.underlying t = some .string) (hx : ev F x = some (.c (T a))) (hy : ev F y = some (.c (T b))) : Rd P N E o F H (.c (B q)) := h ▸ rd_neqs ho ht hx hy
theorem eqstr_v (va vb : Value) (rows : List (List UInt8)) (hl : rows.length ≤ 1000000000) : ACalls Tryz.prog 73 [.c (.r va (tR rows)), .c (.r vb (tR rows))] [] fun u H => u = .c (B true) ∧ H = [] := by
 have e1 : (tR rows).length = rows.length := by simp
 refine ze (N := 26) Tryz.func73 rfl rfl (by simp) fun E hE => ?_
 refine WA ?_
 refine WA ?_
 refine zd rfl ?_
 refine ZZ ?_
 refine WA ?_
 refine zk (fun m F H => ∃ k : Nat, m + k = rows.length ∧ F = [(0, .c (.r va (tR rows))), (1, .c (.r vb (tR rows))), (12, .c (I (tR rows).length)), (13, .c (I k))] ∧ H = []) ?_ ?_
 ·refine zh [] (fun _ => [(0, .c (.r va (tR rows))), (1, .c (.r vb (tR rows))), (12, .c (I (tR rows).length)), (13, .c (I (0 : Nat)))]) (fun _ => _) (by decide) (ZNL hE) ZCF (fun _ => .nil) (fun _ => ?_)
  exact ⟨rows.length, 0, by omega, rfl, rfl⟩
 rintro m F H ⟨k, hk, rfl, rfl⟩
 refine WA ?_
 refine zl rfl (fun hlt => ?_) (fun hge => ?_)
 ·obtain ⟨r, hri⟩ : ∃ r, rows[k]? = some r := ⟨_, List.getElem?_eq_getElem (by omega)⟩
  have hrow : (tR rows)[k]? = some [T r] := by rw [List.getElem?_map, hri]; rfl
  refine WA ?_
  refine ZZ ?_
  refine zg [(0, none), (1, none), (2, none), (3, none), (4, none), (5, none), (6, none), (7, none), (8, none)] zn (by kernel_rfl) ?_
  iterate 8 refine WX2 ?_
  refine ZT rfl (rd_neqsqs (decide_eq_false (fun h => h rfl)) rfl Tryz.underlying9 rfl rfl) ?_
  refine WQ ?_
  refine zd rfl ?_
  refine ZZ ?_
  refine WA ?_
  refine zh [] (fun _ => [(0, .c (.r va (tR rows))), (1, .c (.r vb (tR rows))), (12, .c (I (tR rows).length)), (13, .c (I (k + 1 : Nat)))]) (fun _ => _) (by decide) (ZNL hE) ZCF (fun _ => .nil) (fun _ => ?_)
  exact ⟨m - 1, by omega, k + 1, by omega, rfl, rfl⟩
 refine ZZ ?_
 refine WA ?_
 exact zi [] _ rfl rfl rfl (by decide) (ZNK rfl) (fun _ => .nil) ⟨rfl, rfl⟩
theorem samec_v (va vb : Value) (c : Cel) (hl : c.rows.length ≤ 1000000000) : ACalls Tryz.prog 26 [celA va c, celA vb c] [] fun u H => u = .c (B true) ∧ H = [] := by
 obtain ⟨st, x, y, rows⟩ := c
 simp only at hl
 have h1 : st = st := rfl
 have h2 : x = x := rfl
 have h3 : y = y := rfl
 refine ze (N := 31) Tryz.func26 rfl rfl (by simp) fun E hE => ?_
 refine WA ?_
 refine WR ?_
 first | refine ZS ?_ | (refine G1 rfl ?_; refine zf rfl (za false (fun _ => eqstr_v va vb rows hl) rfl .fn rfl (by decide) (by kernel_rfl) rfl (fun _ => C0 rfl) (by simp)) ?_; rintro _ _ ⟨_, _, _, ⟨rfl, rfl⟩, hF, hH⟩; (refine NST hF hH ?_; clear hF hH; rintro rfl rfl)) | skip
 refine WE ?_
 exact zi [] _ rfl rfl rfl (by decide) (ZNK rfl) (fun _ => .nil) ⟨rfl, rfl⟩
end Go.Proofs.YtfilfijammemfaaGreatDoor
-- NEWM
namespace Go.Proofs.YtfilfijammemfaaGreatDoor
open Go Go.RowKit
set_option maxRecDepth 100000
structure StrC (c : Cel) : Prop where
 x : -10000 ≤ c.x ∧ c.x ≤ 10000
 y : -10000 ≤ c.y ∧ c.y ≤ 10000
 h : c.rows.length ≤ 1000
 r : ∀ r ∈ c.rows, r.length ≤ 1000
theorem StrC.near {c : Cel} (h : StrC c) (hr : RCel c) : NCel c := ⟨hr, h.x, h.y⟩
theorem normC_str {st : Int} {L : List Spot} (hst : 0 ≤ st ∧ st ≤ 100) (hL : ∀ p ∈ L, (-90 ≤ p.1 ∧ p.1 ≤ 90) ∧ (-90 ≤ p.2 ∧ p.2 ≤ 90)) : StrC (normC st L).1 := by
 unfold normC
 by_cases e : L = []
 ·rw [if_pos e]; exact ⟨(by decide : -10000 ≤ (0 : Int) ∧ (0 : Int) ≤ 10000), (by decide : -10000 ≤ (0 : Int) ∧ (0 : Int) ≤ 10000), by simp, fun r h => (by cases h)⟩
 rw [if_neg e]
 split
 ·exact ⟨(by decide : -10000 ≤ (0 : Int) ∧ (0 : Int) ≤ 10000), (by decide : -10000 ≤ (0 : Int) ∧ (0 : Int) ≤ 10000), by simp, fun r h => (by cases h)⟩
 rename_i hs
 split
 ·exact ⟨(by decide : -10000 ≤ (0 : Int) ∧ (0 : Int) ≤ 10000), (by decide : -10000 ≤ (0 : Int) ∧ (0 : Int) ≤ 10000), by simp, fun r h => (by cases h)⟩
 obtain ⟨⟨p1, hp1, e1⟩, ⟨p2, hp2, e2⟩, ⟨p3, hp3, e3⟩, ⟨p4, hp4, e4⟩⟩ := x0_at e
 have b1 := hL p1 hp1
 have b3 := hL p3 hp3
 have mb : ∀ z : Int, -90 ≤ z ∧ z ≤ 90 → -10000 ≤ z * st ∧ z * st ≤ 10000 := fun z hz => by
  have h1 : (z * st).natAbs ≤ 90 * 100 := by rw [Int.natAbs_mul]; exact Nat.mul_le_mul (by omega) (by omega)
  omega
 unfold celN
 rw [if_neg e]
 refine ⟨mb _ (by omega), mb _ (by omega), by simp only [List.length_map, List.length_range]; omega, fun r hr => ?_⟩
 obtain ⟨i, _, rfl⟩ := List.mem_map.1 hr
 rw [rowB_len]; omega
theorem normC_rst {st : Int} {L : List Spot} (h : RCel (normC st L).1) : (normC st L).1.st = st := by
 revert h
 unfold normC
 split
 ·exact fun _ => rfl
 split
 ·exact fun h => absurd h.st (show ¬ (2 ≤ (0 : Int) ∧ (0 : Int) ≤ 10000 ∧ (0 : Int).tmod 2 = 0) by decide)
 split
 ·exact fun h => absurd h.st (show ¬ (2 ≤ (0 : Int) ∧ (0 : Int) ≤ 10000 ∧ (0 : Int).tmod 2 = 0) by decide)
 ·intro _; unfold celN; split <;> rfl
theorem some_a (vals : List (List UInt8)) (q v : Value) (zs : List Int) (a : Int) (hs : StrOk zs) (h0 : 0 ≤ a) (h1 : a ≤ 1000000000) (hv : vals ≠ []) (hl : vals.length ≤ 1000000) :
    ACalls Tryz.prog 31 [.p 0 0 0, .c (.r q (tR vals))] [strm v zs a] fun u H => ∃ r, u = .c (T r) ∧ H = [strm v zs (a + 1)] ∧ r ∈ vals := by
 have hp : 0 < vals.length := List.length_pos_iff.2 hv
 have e1 : (tR vals).length = vals.length := by simp
 refine ze (N := 12) Tryz.func31 rfl rfl (by simp) fun E hE => ?_
 refine WA ?_
 refine WR ?_
 refine zf rfl (zp false (fun _ => next_a _ _ _ _ hs (by omega) (by omega) (by simp only [in64]; omega)) rfl .fn rfl (by decide) (by kernel_rfl) rfl rfl (fun _g => .cons (.p rfl) (.cons (.c rfl) .nil)) (fun _g => .cons (.c rfl) (.cons (.c rfl) .nil)) (by simp)) ?_
 rintro F1 H1 ⟨_, _, _, _, ⟨r, rfl, hq, hr1, hr2⟩, hF, hH⟩
 injection hq with hq1 hq2; subst hq1; subst hq2
 (refine NST hF hH ?_; clear hF hH; rintro rfl rfl)
 obtain ⟨i, rfl⟩ : ∃ i : Nat, r = i := ⟨r.toNat, by omega⟩
 have hk : i < vals.length := by have := hr2 (by rw [e1]; omega); rw [e1] at this; omega
 obtain ⟨z, hz0⟩ : ∃ z, vals[i]? = some z := ⟨_, List.getElem?_eq_getElem hk⟩
 have hrow : (tR vals)[i]? = some [T z] := by rw [List.getElem?_map, hz0]; rfl
 refine ZA (zR1 rfl (KE (t := 26) rfl) rfl rfl (i := i) rfl hrow rfl) ?_
 refine WE ?_
 refine zi [some 0] _ rfl rfl rfl (by decide) (ZNK rfl) ZCH ?_
 exact ⟨_, rfl, rfl, List.mem_of_getElem? hz0⟩
set_option maxHeartbeats 4000000 in
theorem acells_w (st : Int) (hst : 1 ≤ st ∧ st ≤ 100) (v : Value) (zs : List Int) (a : Int) (hs : StrOk zs) (h0 : 0 ≤ a) (h1 : a ≤ 800000000) : ACalls Tryz.prog 5 [.p 0 0 0, .c (I st)] [strm v zs a] fun u H => ∃ (v' : Value) (c : Cel) (a' : Int), u = celA v' c ∧ H = [strm v zs a'] ∧ a ≤ a' ∧ a' ≤ a + 200 ∧ StrC c ∧ (RCel c → c.st = st) := by
 have hmul : ∀ z : Int, -3 ≤ z ∧ z ≤ 3 → -300 ≤ st * z ∧ st * z ≤ 300 ∧ (st * z).tdiv st = z := fun z hz => by
  have h1 : (st * z).natAbs ≤ 100 * 3 := by rw [Int.natAbs_mul]; exact Nat.mul_le_mul (by omega) (by omega)
  exact ⟨by omega, by omega, by rw [Int.mul_comm]; exact Int.mul_tdiv_cancel _ (by omega)⟩
 refine ze (N := 73) Tryz.func5 rfl rfl (by simp) fun E hE => ?_
 refine WA ?_
 refine WR ?_
 refine zf rfl (zp false (fun _ => range_a 1 7 _ _ _ hs (by omega) (by omega) (by omega) (by omega) (by omega) (by omega)) rfl .fn rfl (by decide) (by kernel_rfl) rfl rfl (fun _g => .cons (.p rfl) (.cons (.c rfl) (.cons (.c rfl) .nil))) (fun _g => .cons (.c rfl) (.cons (.c rfl) .nil)) (by simp)) ?_
 rintro F1 H1 ⟨_, _, _, _, ⟨rr, ar, rfl, hq, hr3, hr4, hr1, hr2, _⟩, hF, hH⟩
 injection hq with hq1 hq2; subst hq1; subst hq2
 (refine NST hF hH ?_; clear hF hH; rintro rfl rfl)
 have h64r : in64 rr := by simp only [in64]; omega
 refine WE ?_
 obtain ⟨wd, rfl⟩ : ∃ wd : Nat, rr = wd := ⟨rr.toNat, by omega⟩
 have hwd : 1 ≤ wd ∧ wd ≤ 7 := by omega
 refine WR ?_
 refine zf rfl (zp false (fun _ => range_a (-3) 3 _ _ _ hs (by omega) (by omega) (by omega) (by omega) (by omega) (by omega)) rfl .fn rfl (by decide) (by kernel_rfl) rfl rfl (fun _g => .cons (.p rfl) (.cons (.c rfl) (.cons (.c rfl) .nil))) (fun _g => .cons (.c rfl) (.cons (.c rfl) .nil)) (by simp)) ?_
 rintro F1 H1 ⟨_, _, _, _, ⟨rX, aX, rfl, hq, hr3, hr4, hr1, hr2, _⟩, hF, hH⟩
 injection hq with hq1 hq2; subst hq1; subst hq2
 (refine NST hF hH ?_; clear hF hH; rintro rfl rfl)
 have hmz := hmul rX (by omega)
 refine WO ?_
 refine zf rfl (zp false (fun _ => range_a (-3) 3 _ _ _ hs (by omega) (by omega) (by omega) (by omega) (by omega) (by omega)) rfl .fn rfl (by decide) (by kernel_rfl) rfl rfl (fun _g => .cons (.p rfl) (.cons (.c rfl) (.cons (.c rfl) .nil))) (fun _g => .cons (.c rfl) (.cons (.c rfl) .nil)) (by simp)) ?_
 rintro F1 H1 ⟨_, _, _, _, ⟨rY, aY, rfl, hq, hr3, hr4, hr1, hr2, _⟩, hF, hH⟩
 injection hq with hq1 hq2; subst hq1; subst hq2
 (refine NST hF hH ?_; clear hF hH; rintro rfl rfl)
 have hmz := hmul rY (by omega)
 refine WE ?_
 obtain ⟨hX1, hX2, hX3⟩ := hmul rX (by omega)
 obtain ⟨hY1, hY2, hY3⟩ := hmul rY (by omega)
 generalize hX : st * rX = X at *
 generalize hY : st * rY = Y at *
 refine WR ?_
 refine zf rfl (zp false (fun _ => range_a 1 6 _ _ _ hs (by omega) (by omega) (by omega) (by omega) (by omega) (by omega)) rfl .fn rfl (by decide) (by kernel_rfl) rfl rfl (fun _g => .cons (.p rfl) (.cons (.c rfl) (.cons (.c rfl) .nil))) (fun _g => .cons (.c rfl) (.cons (.c rfl) .nil)) (by simp)) ?_
 rintro F1 H1 ⟨_, _, _, _, ⟨rr, ar, rfl, hq, hr3, hr4, hr1, hr2, _⟩, hF, hH⟩
 injection hq with hq1 hq2; subst hq1; subst hq2
 (refine NST hF hH ?_; clear hF hH; rintro rfl rfl)
 have h64r : in64 rr := by simp only [in64]; omega
 refine WE ?_
 obtain ⟨nr, rfl⟩ : ∃ nr : Nat, rr = nr := ⟨rr.toNat, by omega⟩
 have hnr : 1 ≤ nr ∧ nr ≤ 6 := by omega
 have haa : a ≤ ar ∧ ar ≤ a + 4 := by omega
 generalize har : ar = a1 at *
 refine zk (fun m F H => ∃ (i cp : Nat) (R : List (List UInt8)) (a' : Int), m + i = nr ∧ R.length = i ∧ (∀ r ∈ R, r.length = wd ∧ okB2 r = true) ∧ a1 ≤ a' ∧ a' ≤ a1 + 10 * i ∧ F = [(0, .p 0 0 0), (1, .c (I st)), (4, .p 1 0 0), (5, .c (I wd)), (6, .p 2 0 0), (21, .c (I nr)), (22, .c (I i))] ∧ H = [strm v zs a', .box [.c (I 0), .c (I 0), .c (I 0), .c (.r (.slice none 0 0) [])], .box [.c (I st), .c (I X), .c (I Y), .o 3 0 R.length cp], .arr 9 1 cp (tR R)]) ?_ ?_
 ·refine zh [some 0, some 1, some 2, none] (fun _ => [(0, .p 0 0 0), (1, .c (I st)), (4, .p 1 0 0), (5, .c (I wd)), (6, .p 2 0 0), (21, .c (I nr)), (22, .c (I (0 : Nat)))]) (fun _ => [strm v zs a1, .box [.c (I 0), .c (I 0), .c (I 0), .c (.r (.slice none 0 0) [])], .box [.c (I st), .c (I X), .c (I Y), .o 3 0 0 0], .arr 9 1 0 (tR [])]) (by decide) (ZNL hE) ZCF ZCH (fun _ => ?_)
  exact ⟨nr, 0, 0, [], a1, by omega, rfl, fun r h => (by cases h), by omega, by omega, rfl, rfl⟩
 rintro m F H ⟨i, cp, R, a', hi, hRi, hRr, ha1, ha2, rfl, rfl⟩
 refine WA ?_
 refine zl rfl (fun hlt => ?_) (fun hge => ?_)
 ·refine WA ?_
  refine WA ?_
  refine zk (fun m2 F H => ∃ (k : Nat) (r : List UInt8) (a2 : Int), m2 + k = wd ∧ r.length = k ∧ okB2 r = true ∧ a2 = a' + k ∧ F = [(0, .p 0 0 0), (1, .c (I st)), (4, .p 1 0 0), (5, .c (I wd)), (6, .p 2 0 0), (7, .c (T r)), (21, .c (I nr)), (22, .c (I i)), (24, .c (I wd)), (25, .c (I k))] ∧ H = [strm v zs a2, .box [.c (I 0), .c (I 0), .c (I 0), .c (.r (.slice none 0 0) [])], .box [.c (I st), .c (I X), .c (I Y), .o 3 0 R.length cp], .arr 9 1 cp (tR R)]) ?_ ?_
  ·refine zh [some 0, some 1, some 2, some 3] (fun _ => [(0, .p 0 0 0), (1, .c (I st)), (4, .p 1 0 0), (5, .c (I wd)), (6, .p 2 0 0), (7, .c (T [])), (21, .c (I nr)), (22, .c (I i)), (24, .c (I wd)), (25, .c (I (0 : Nat)))]) (fun _ => [strm v zs a', .box [.c (I 0), .c (I 0), .c (I 0), .c (.r (.slice none 0 0) [])], .box [.c (I st), .c (I X), .c (I Y), .o 3 0 R.length cp], .arr 9 1 cp (tR R)]) (by decide) (ZNL hE) ZCF ZCH (fun _ => ?_)
   exact ⟨wd, 0, [], a', by omega, rfl, rfl, by simp, rfl, rfl⟩
  rintro m2 F H ⟨k, r, a2, hk, hrk, hrb, ha3, rfl, rfl⟩
  refine WA ?_
  refine zl rfl (fun hlt2 => ?_) (fun hge2 => ?_)
  ·refine WR ?_
   refine zf rfl (zp true (fun _ => some_a [[35], [35], [35], [46]] _ _ _ _ hs (by omega) (by omega) (by simp) (by simp)) rfl .fn rfl (by decide) (by kernel_rfl) rfl rfl (fun _g => .cons (.p rfl) (.cons (.frz rfl rfl rfl rfl rfl) .nil)) (fun _g => .cons (.c rfl) (.cons (.c rfl) .nil)) (fun _ _ _ _ ⟨_, hu, hH, _⟩ => by rw [hu, hH]; exact ⟨.c (.inl trivial), zf1 (.inr ⟨0, _, rfl, by simp⟩)⟩)) ?_
   rintro F1 H1 ⟨_, _, _, _, ⟨sr, rfl, hq, hsm⟩, hF, hH⟩
   injection hq with hq1 hq2; subst hq1; subst hq2
   (refine NST hF hH ?_; clear hF hH; rintro rfl rfl)
   have hsl : sr.length ≤ 1 := by simp only [List.mem_cons, List.not_mem_nil, or_false] at hsm; rcases hsm with rfl | rfl | rfl | rfl <;> decide
   refine WE ?_
   have hs1 : sr.length = 1 := by simp only [List.mem_cons, List.not_mem_nil, or_false] at hsm; rcases hsm with rfl | rfl | rfl | rfl <;> rfl
   have hs2 : okB2 sr = true := by simp only [List.mem_cons, List.not_mem_nil, or_false] at hsm; rcases hsm with rfl | rfl | rfl | rfl <;> rfl
   refine WA ?_
   refine zh [some 0, some 1, some 2, some 3] (fun _ => [(0, .p 0 0 0), (1, .c (I st)), (4, .p 1 0 0), (5, .c (I wd)), (6, .p 2 0 0), (7, .c (T (r ++ sr))), (21, .c (I nr)), (22, .c (I i)), (24, .c (I wd)), (25, .c (I (k + 1 : Nat)))]) (fun _ => [strm v zs (a2 + 1), .box [.c (I 0), .c (I 0), .c (I 0), .c (.r (.slice none 0 0) [])], .box [.c (I st), .c (I X), .c (I Y), .o 3 0 R.length cp], .arr 9 1 cp (tR R)]) (by decide) (ZNL hE) ZCF ZCH (fun _ => ?_)
   exact ⟨m2 - 1, by omega, k + 1, r ++ sr, a2 + 1, by omega, by rw [List.length_append]; omega, by unfold okB2 at *; rw [List.all_append, hrb, hs2]; rfl, by omega, rfl, rfl⟩
  obtain rfl : k = wd := by omega
  refine ZZ ?_
  refine WR ?_
  refine zf rfl (Zapp (KA (t := 26) rfl)) ?_
  rintro _ _ ⟨_, cc, hcc, rfl, rfl⟩
  refine WE ?_
  refine WA ?_
  refine zh [some 0, some 1, some 2, some 3] (fun _ => [(0, .p 0 0 0), (1, .c (I st)), (4, .p 1 0 0), (5, .c (I k)), (6, .p 2 0 0), (21, .c (I nr)), (22, .c (I (i + 1 : Nat)))]) (fun _ => [strm v zs a2, .box [.c (I 0), .c (I 0), .c (I 0), .c (.r (.slice none 0 0) [])], .box [.c (I st), .c (I X), .c (I Y), .o 3 0 (R ++ [r]).length cc], .arr 9 1 cc (tR (R ++ [r]))]) (by decide) (ZNL hE) ZCF ZCH (fun _ => ?_)
  exact ⟨m - 1, by omega, i + 1, cc, R ++ [r], a2, by omega, by rw [List.length_append]; simp; omega, fun q hq => by
   rcases List.mem_append.1 hq with hq | hq
   ·exact hRr q hq
   ·rw [List.mem_singleton.1 hq]; exact ⟨hrk, hrb⟩, by omega, by omega, rfl, rfl⟩
 obtain rfl : i = nr := by omega
 have hR6 : R.length ≤ 6 := by omega
 have hR7 : ∀ r ∈ R, r.length ≤ 7 ∧ okB2 r = true := fun r hr => ⟨by rw [(hRr r hr).1]; omega, (hRr r hr).2⟩
 have hRs : ∀ R' : List (List UInt8), R'.length ≤ 6 → (∀ r ∈ R', r.length ≤ 7) → ∀ s x y : Int, -10000 ≤ x ∧ x ≤ 10000 → -10000 ≤ y ∧ y ≤ 10000 → StrC ⟨s, x, y, R'⟩ := fun R' h1 h2 s x y hx hy => ⟨hx, hy, by show R'.length ≤ _; omega, fun r hr => by have := h2 r hr; omega⟩
 refine ZZ ?_
 refine WR ?_
 refine zf rfl (zp false (fun _ => flip_a 12 _ _ _ hs (by omega) (by omega) (by simp only [in64]; omega)) rfl .fn rfl (by decide) (by kernel_rfl) rfl rfl (fun _g => .cons (.p rfl) (.cons (.c rfl) .nil)) (fun _g => .cons (.c rfl) (.cons (.c rfl) .nil)) (by simp)) ?_
 rintro F1 H1 ⟨_, _, _, _, ⟨bb, rfl, hq⟩, hF, hH⟩
 injection hq with hq1 hq2; subst hq1; subst hq2
 (refine NST hF hH ?_; clear hF hH; rintro rfl rfl)
 refine WE ?_
 refine zC rfl (fun _ => ?_) (fun _ => ?_)
 ·refine WR ?_
  refine zf rfl (zp false (fun _ => next_a 4 _ _ _ hs (by omega) (by omega) (by simp only [in64]; omega)) rfl .fn rfl (by decide) (by kernel_rfl) rfl rfl (fun _g => .cons (.p rfl) (.cons (.c rfl) .nil)) (fun _g => .cons (.c rfl) (.cons (.c rfl) .nil)) (by simp)) ?_
  rintro F1 H1 ⟨_, _, _, _, ⟨rr, rfl, hq, hr1, hr2⟩, hF, hH⟩
  injection hq with hq1 hq2; subst hq1; subst hq2
  (refine NST hF hH ?_; clear hF hH; rintro rfl rfl)
  refine WE ?_
  refine WA ?_
  refine zl rfl (fun _ => ?_) (fun _ => ?_)
  ·refine WA ?_
   refine WA ?_
   exact zq (us := [.a [.c (I st), .c (I (X + 1)), .c (I Y), .o 3 0 (R).length cp]]) [some 0] (fun g => .a [.c (I st), .c (I (X + 1)), .c (I Y), .c (.r (g (.o 3 0 (R).length cp)) (tR (R)))]) (fun _ => [strm v zs _]) (.cella (n := 4) rfl (by kernel_rfl) (Cells.box rfl) (by first | (simp; done) | exact Nat.le_refl 4) (by (try simp only [nm, putL, Nat.reduceAdd, cellsOf, cvOf]) <;> rfl) .nil) (by decide) (ZNK rfl) (fun g' => .aL (.cons (.c rfl) (.cons (.c rfl) (.cons (.c rfl) (.cons (.frz rfl rfl (by rw [List.drop_zero, List.take_of_length_le (by simp)]) (by simp) rfl) .nil))))) ZCH (fun g' => ⟨_, ⟨st, X + 1, Y, R⟩, _, rfl, rfl, by omega, by omega, hRs R hR6 (fun r hr => (hR7 r hr).1) _ _ _ (by omega) (by omega), fun _ => rfl⟩)
  ·refine ZZ ?_
   refine WA ?_
   refine zl rfl (fun _ => ?_) (fun _ => ?_)
   ·refine ZZ ?_
    refine aw_regionM [[(0, none), (1, none), (2, none), (3, none), (4, none), (5, none), (7, none), (6, some [0, 1, 7]), (8, some [0, 1, 2, 3, 4, 5, 7]), (9, some [0, 1]), (10, none), (11, some [])], [(0, none), (1, none), (2, none), (3, none), (4, none), (5, none), (7, none), (8, some [0, 1, 2, 3, 4, 5, 7]), (6, some [0, 1, 7]), (9, some [0, 1]), (10, none), (11, some [])]] zn (by kernel_rfl) ?_
    focus
     refine WM ?_
     refine am_two (by rfl) (by rfl) (by rfl) ?_ ?_
     rotate_left
     refine WM ?_
     refine zW1 (i := 6) (by rfl) (by rfl) rfl rfl (zp false (fun _ => next_a _ _ _ _ hs (by omega) (by omega) (by simp only [in64]; omega)) rfl .fn rfl (by decide) (by kernel_rfl) rfl rfl (fun _g => .cons (.p rfl) (.cons (.c rfl) .nil)) (fun _g => .cons (.c rfl) (.cons (.c rfl) .nil)) (by simp)) ?_
     rintro F1 H1 ⟨_, _, _, _, ⟨rn, rfl, hq, hr1, hr2⟩, hF, hH⟩
     injection hq with hq1 hq2; subst hq1; subst hq2
     (refine NST hF hH ?_; clear hF hH; rintro rfl rfl)
     obtain ⟨ix, rfl⟩ : ∃ ix : Nat, rn = ix := ⟨rn.toNat, by omega⟩
     have hix : ix < R.length := by have := hr2 (by omega); omega
     obtain ⟨r0, hr0⟩ : ∃ z, R[ix]? = some z := ⟨_, List.getElem?_eq_getElem hix⟩
     have hrow : (tR R)[ix]? = some [T r0] := by rw [List.getElem?_map, hr0]; rfl
     refine ⟨AGX, ?_⟩
     refine zW1 (i := 9) (by rfl) (by rfl) rfl rfl (zp true (fun _ => some_a [[], [120], [46]] _ _ _ _ hs (by omega) (by omega) (by simp) (by simp)) rfl .fn rfl (by decide) (by kernel_rfl) rfl rfl (fun _g => .cons (.p rfl) (.cons (.frz rfl rfl rfl rfl rfl) .nil)) (fun _g => .cons (.c rfl) (.cons (.c rfl) .nil)) (fun _ _ _ _ ⟨_, hu, hH, _⟩ => by rw [hu, hH]; exact ⟨.c (.inl trivial), zf1 (.inr ⟨0, _, rfl, by simp⟩)⟩)) ?_
     rintro F1 H1 ⟨_, _, _, _, ⟨sr, rfl, hq, hsm⟩, hF, hH⟩
     injection hq with hq1 hq2; subst hq1; subst hq2
     (refine NST hF hH ?_; clear hF hH; rintro rfl rfl)
     have hsl : sr.length ≤ 1 := by simp only [List.mem_cons, List.not_mem_nil, or_false] at hsm; rcases hsm with rfl | rfl | rfl <;> decide
     refine ⟨AGX, ?_⟩
     refine WN ?_
     rotate_right
     refine zW1 (i := 6) (by rfl) (by rfl) rfl rfl (zp false (fun _ => next_a _ _ _ _ hs (by omega) (by omega) (by simp only [in64]; omega)) rfl .fn rfl (by decide) (by kernel_rfl) rfl rfl (fun _g => .cons (.p rfl) (.cons (.c rfl) .nil)) (fun _g => .cons (.c rfl) (.cons (.c rfl) .nil)) (by simp)) ?_
     rintro F1 H1 ⟨_, _, _, _, ⟨rn, rfl, hq, hr1, hr2⟩, hF, hH⟩
     injection hq with hq1 hq2; subst hq1; subst hq2
     (refine NST hF hH ?_; clear hF hH; rintro rfl rfl)
     obtain ⟨ix, rfl⟩ : ∃ ix : Nat, rn = ix := ⟨rn.toNat, by omega⟩
     have hix : ix < R.length := by have := hr2 (by omega); omega
     obtain ⟨r0, hr0⟩ : ∃ z, R[ix]? = some z := ⟨_, List.getElem?_eq_getElem hix⟩
     have hrow : (tR R)[ix]? = some [T r0] := by rw [List.getElem?_map, hr0]; rfl
     refine ⟨AGX, ?_⟩
     refine WM ?_
     refine zW1 (i := 9) (by rfl) (by rfl) rfl rfl (zp true (fun _ => some_a [[], [120], [46]] _ _ _ _ hs (by omega) (by omega) (by simp) (by simp)) rfl .fn rfl (by decide) (by kernel_rfl) rfl rfl (fun _g => .cons (.p rfl) (.cons (.frz rfl rfl rfl rfl rfl) .nil)) (fun _g => .cons (.c rfl) (.cons (.c rfl) .nil)) (fun _ _ _ _ ⟨_, hu, hH, _⟩ => by rw [hu, hH]; exact ⟨.c (.inl trivial), zf1 (.inr ⟨0, _, rfl, by simp⟩)⟩)) ?_
     rintro F1 H1 ⟨_, _, _, _, ⟨sr, rfl, hq, hsm⟩, hF, hH⟩
     injection hq with hq1 hq2; subst hq1; subst hq2
     (refine NST hF hH ?_; clear hF hH; rintro rfl rfl)
     have hsl : sr.length ≤ 1 := by simp only [List.mem_cons, List.not_mem_nil, or_false] at hsm; rcases hsm with rfl | rfl | rfl <;> decide
     refine ⟨AGX, ?_⟩
     refine WN ?_
    all_goals (
     have hsc : StrC ⟨st, X, Y, R.set ix sr⟩ := hRs (R.set ix sr) (by rw [List.length_set]; omega) (fun r hr => (List.mem_or_eq_of_mem_set hr).elim (fun h => (hR7 r h).1) (fun h => by rw [h]; omega)) _ _ _ (by omega) (by omega)
     have hse : (tR R).set (0 + ix) [T sr] = tR (R.set ix sr) := by show List.set (List.map (fun r => [T r]) R) (0 + ix) [T sr] = List.map (fun r => [T r]) (R.set ix sr); rw [Nat.zero_add, List.map_set]
     refine WA ?_
     exact zq (us := [.a [.c (I st), .c (I X), .c (I Y), .o 3 0 R.length cp]]) [some 0] (fun g => .a [.c (I st), .c (I X), .c (I Y), .c (.r (g (.o 3 0 R.length cp)) (tR (R.set ix sr)))]) (fun _ => [strm v zs _]) (.cella (n := 4) rfl (by kernel_rfl) (Cells.box rfl) (by first | (simp; done) | exact Nat.le_refl 4) (by (try simp only [nm, putL, Nat.reduceAdd, cellsOf, cvOf]) <;> rfl) .nil) (by decide) (ZNK rfl) (fun g' => .aL (.cons (.c rfl) (.cons (.c rfl) (.cons (.c rfl) (.cons (.frz (b := 3) rfl rfl (by rw [List.drop_zero, List.take_of_length_le (by simp)]; exact hse) (by simp) rfl) .nil))))) ZCH (fun g' => ⟨_, ⟨st, X, Y, R.set ix sr⟩, _, rfl, rfl, by omega, by omega, hsc, fun _ => rfl⟩))
   ·refine ZZ ?_
    refine WA ?_
    refine zl rfl (fun _ => ?_) (fun _ => ?_)
    ·refine WR ?_
     refine zf rfl (zp true (fun _ => pick_a [1, 3, 0, -2, 10002] _ _ _ _ hs (by omega) (by omega) (by simp) (by simp)) rfl .fn rfl (by decide) (by kernel_rfl) rfl rfl (fun _g => .cons (.p rfl) (.cons (.frz rfl rfl rfl rfl rfl) .nil)) (fun _g => .cons (.c rfl) (.cons (.c rfl) .nil)) (fun _ _ _ _ ⟨_, hu, hH, _⟩ => by rw [hu, hH]; exact ⟨.c (.inl trivial), zf1 (.inr ⟨0, _, rfl, by simp⟩)⟩)) ?_
     rintro F1 H1 ⟨_, _, _, _, ⟨rr, rfl, hq, hrm⟩, hF, hH⟩
     injection hq with hq1 hq2; subst hq1; subst hq2
     (refine NST hF hH ?_; clear hF hH; rintro rfl rfl)
     have h64r : in64 rr := by simp only [List.mem_cons, List.not_mem_nil, or_false] at hrm; simp only [in64] at *; omega
     have hrn : ¬ (2 ≤ rr ∧ rr ≤ 10000 ∧ rr.tmod 2 = 0) := by
      simp only [List.mem_cons, List.not_mem_nil, or_false] at hrm
      rcases hrm with rfl | rfl | rfl | rfl | rfl <;> decide
     clear hrm
     refine WE ?_
     refine WA ?_
     exact zq (us := [.a [.c (I _), .c (I X), .c (I Y), .o 3 0 (R).length cp]]) [some 0] (fun g => .a [.c (I _), .c (I X), .c (I Y), .c (.r (g (.o 3 0 (R).length cp)) (tR (R)))]) (fun _ => [strm v zs _]) (.cella (n := 4) rfl (by kernel_rfl) (Cells.box rfl) (by first | (simp; done) | exact Nat.le_refl 4) (by (try simp only [nm, putL, Nat.reduceAdd, cellsOf, cvOf]) <;> rfl) .nil) (by decide) (ZNK rfl) (fun g' => .aL (.cons (.c rfl) (.cons (.c rfl) (.cons (.c rfl) (.cons (.frz rfl rfl (by rw [List.drop_zero, List.take_of_length_le (by simp)]) (by simp) rfl) .nil))))) ZCH (fun g' => ⟨_, ⟨_, X, Y, R⟩, _, rfl, rfl, by omega, by omega, hRs R hR6 (fun r hr => (hR7 r hr).1) _ _ _ (by omega) (by omega), fun h => absurd h.st hrn⟩)
    ·refine ZZ ?_
     refine WA ?_
     refine WA ?_
     exact aret_a [some 0] _ rfl (KK (t := 28) rfl) rfl (Cells.box rfl) (by first | (simp; done) | exact Nat.le_refl 4) (by (try simp only [nm, putL, Nat.reduceAdd, cellsOf, cvOf]) <;> rfl) (by decide) (ZNK rfl) (fun _ => C0 rfl) ZCH ⟨.slice none 0 0, ⟨st, X, Y, []⟩, _, rfl, rfl, by omega, by omega, hRs [] (by simp) (fun r hr => by cases hr) _ _ _ (by omega) (by omega), fun _ => rfl⟩
 ·refine ZZ ?_
  refine zC1 (zh (K := fun F H => ∃ vo, F = [(4, .p 1 0 0), (6, .p 2 0 0)] ∧ H = [strm v zs (a' + 1), .box [.c (I 0), .c (I 0), .c (I 0), .c (.r (.slice none 0 0) [])], .box [.c (I st), .c (I X), .c (I Y), .c (.r vo (tR R))]]) [some 0, some 1, some 2] (fun _ => [(4, .p 1 0 0), (6, .p 2 0 0)]) (fun g => [strm v zs (a' + 1), .box [.c (I 0), .c (I 0), .c (I 0), .c (.r (.slice none 0 0) [])], .box [.c (I st), .c (I X), .c (I Y), .c (.r (g (.o 3 0 R.length cp)) (tR R))]]) (by decide) (ZNL hE) ZCF (fun g => .box rfl (C0 rfl) (.box rfl (C0 rfl) (.box rfl (.cons (.c rfl) (.cons (.c rfl) (.cons (.c rfl) (.cons (.frz rfl rfl (by rw [List.drop_zero, List.take_of_length_le (by simp)]) (by simp) rfl) .nil)))) .nil))) (fun _ => ⟨_, rfl, rfl⟩)) ?_
  rintro F H ⟨vo, rfl, rfl⟩
  have hRk : ∀ r ∈ R, r.length ≤ 1000000 ∧ okB2 r = true := fun r hr => ⟨by have := (hR7 r hr).1; omega, (hR7 r hr).2⟩
  have hcs : StrC (normC st (covL ⟨st, X, Y, R⟩)).1 := normC_str (by omega) fun p hp => by
   obtain ⟨i, k, r, q1, q2, rfl⟩ := hitC_mem.1 hp
   have k1 : i < R.length := (List.getElem?_eq_some_iff.1 q1).1
   have k2 := (List.getElem?_eq_some_iff.1 q2).1
   have k3 := (hR7 r (List.mem_of_getElem? q1)).1
   simp only
   rw [hX3, hY3]
   omega
  refine WR ?_
  refine zf rfl (za false (fun _ => trimmed_v vo ⟨st, X, Y, R⟩ ⟨hst.1, by show st ≤ _; omega⟩ (by show -2000000 ≤ X ∧ X ≤ _; omega) (by show -2000000 ≤ Y ∧ Y ≤ _; omega) (by show R.length ≤ _; omega) hRk) rfl .fn rfl (by decide) (by kernel_rfl) rfl (fun _ => C0 rfl) (by simp)) ?_
  rintro _ _ ⟨_, _, _, ⟨v', rfl, rfl⟩, hF, hH⟩
  (refine NST hF hH ?_; clear hF hH; rintro rfl rfl)
  refine WE ?_
  exact aret_a [some 0] _ rfl (KK (t := 28) rfl) rfl (Cells.box rfl) (by first | (simp; done) | exact Nat.le_refl 4) (by (try simp only [nm, putL, Nat.reduceAdd, cellsOf, cvOf]) <;> rfl) (by decide) (ZNK rfl) (fun _ => C0 rfl) ZCH ⟨v', _, _, rfl, rfl, by omega, by omega, hcs, normC_rst⟩
end Go.Proofs.YtfilfijammemfaaGreatDoor
-- NEWM
namespace Go.Proofs.YtfilfijammemfaaGreatDoor
open Go Go.RowKit
set_option maxRecDepth 100000
end Go.Proofs.YtfilfijammemfaaGreatDoor
