/- Cells that are the same, fillings that are the same, by value. -/
import Derived.Test.YtfilfijammemfaaGreatDoorQbd
import Derived.Test.YtfilfijammemfaaGreatDoorQbb
import Derived.Test.YtfilfijammemfaaGreatDoorQba
import Derived.Test.YtfilfijammemfaaGreatDoorQaz
set_option linter.unusedSimpArgs false
set_option linter.unusedVariables false
/- The reference's places, and a place among places, by value. -/
-- NEWM
namespace Go.Proofs.YtfilfijammemfaaGreatDoor
open Go Go.RowKit
set_option maxRecDepth 100000
theorem hitR_len {x y : Int} : ∀ r : List UInt8, (hitR x y r).length ≤ r.length := fun r => by
 induction r generalizing x with
 | nil => simp [hitR]
 | cons b r ih =>
  unfold hitR
  have := ih (x := x + 1)
  split <;> (simp only [List.length_cons]; omega)
theorem hitC_len {x : Int} {M : Nat} : ∀ {rs : List (List UInt8)} {y : Int}, (∀ r ∈ rs, r.length ≤ M) → (hitC x y rs).length ≤ rs.length * M
 | [], y, _ => by simp [hitC]
 | r :: rs, y, h => by
  have h1 := hitC_len (x := x) (y := y + 1) (fun q hq => h q (List.mem_cons_of_mem _ hq))
  have h2 := hitR_len (x := x) (y := y) r
  have h3 := h r List.mem_cons_self
  rw [hitC, List.length_append, List.length_cons, Nat.succ_mul]
  omega
theorem len_take {α : Type} {l : List α} {P : α → Prop} {k : Nat} (h : ∀ r ∈ l, P r) : ∀ r ∈ l.take k, P r := fun r hr => h r (List.mem_of_mem_take hr)
set_option maxHeartbeats 1000000 in
theorem places_v (va : Value) (c : Cel) (hst : 1 ≤ c.st) (hx : -1000000000000 ≤ c.x ∧ c.x ≤ 1000000000000) (hy : -1000000000000 ≤ c.y ∧ c.y ≤ 1000000000000) (hl : c.rows.length ≤ 10000) (hr : ∀ r ∈ c.rows, r.length ≤ 10000) : ACalls Tryz.prog 92 [celA va c] [] fun u H => ∃ v, u = .c (.r v (sR (covL c))) ∧ H = [] := by
 have hX := tdiv_bd hst hx
 have hY := tdiv_bd hst hy
 have e1 : (tR c.rows).length = c.rows.length := by simp
 refine acalls_of (N := 45) Tryz.func92 rfl rfl (by simp) fun E hE => ?_
 refine WA ?_
 refine WA ?_
 refine WA ?_
 refine aw_loopw (fun m F H => ∃ (i cp : Nat), m + i = c.rows.length ∧ F = [(1, .p 0 0 0), (3, .o 1 0 (hitC (c.x.tdiv c.st) (c.y.tdiv c.st) (c.rows.take i)).length cp), (8, .c (.r va (tR c.rows))), (9, .c (I (tR c.rows).length)), (10, .c (I i))] ∧ H = [celB va c, .arr 162 2 cp (sR (hitC (c.x.tdiv c.st) (c.y.tdiv c.st) (c.rows.take i)))]) ?_ ?_
 ·refine wk_of [some 0, none] (fun _ => [(1, .p 0 0 0), (3, .o 1 0 0 0), (8, .c (.r va (tR c.rows))), (9, .c (I (tR c.rows).length)), (10, .c (I (0 : Nat)))]) (fun _ => [celB va c, .arr 162 2 0 (sR [])]) (by decide) (ZNL hE) ZCF ZCH (fun _ => ?_)
  exact ⟨c.rows.length, 0, 0, by omega, rfl, rfl⟩
 rintro m F H ⟨i, cp, hi, rfl, rfl⟩
 refine WA ?_
 refine aw_if rfl (fun hlt => ?_) (fun hge => ?_)
 ·obtain ⟨r, hri⟩ : ∃ r, c.rows[i]? = some r := ⟨_, List.getElem?_eq_getElem (by omega)⟩
  have hrow : (tR c.rows)[i]? = some [T r] := by rw [List.getElem?_map, hri]; rfl
  have hrl := hr r (List.mem_of_getElem? hri)
  have htk : c.rows.take (i + 1) = c.rows.take i ++ [r] := by rw [List.take_add_one, hri]; rfl
  have hil : (c.rows.take i).length = i := by rw [List.length_take]; omega
  have hnx : ∀ k, k ≤ r.length → hitC (c.x.tdiv c.st) (c.y.tdiv c.st) (c.rows.take i ++ [r.take k]) = hitC (c.x.tdiv c.st) (c.y.tdiv c.st) (c.rows.take i) ++ hitR (c.x.tdiv c.st) (c.y.tdiv c.st + (i : Nat)) (r.take k) := fun k hk => by
   rw [hitC_append, hil]; simp [hitC]
  have hbig : ∀ k, (hitC (c.x.tdiv c.st) (c.y.tdiv c.st) (c.rows.take i ++ [r.take k])).length ≤ 1000000000 := fun k => by
   have := hitC_len (x := c.x.tdiv c.st) (y := c.y.tdiv c.st) (rs := c.rows.take i ++ [r.take k]) (M := 10000) (fun q hq => by
    rcases List.mem_append.1 hq with hq | hq
    ·exact len_take hr q hq
    ·rw [List.mem_singleton.1 hq, List.length_take]; omega)
   have h2 : (c.rows.take i ++ [r.take k]).length ≤ 10001 := by rw [List.length_append, hil]; simp; omega
   have h3 := Nat.mul_le_mul_right 10000 h2
   omega
  refine WA ?_
  refine WA ?_
  refine aw_loopw (fun m2 F H => ∃ (k cp : Nat), m2 + k = r.length ∧ F = [(1, .p 0 0 0), (3, .o 1 0 (hitC (c.x.tdiv c.st) (c.y.tdiv c.st) (c.rows.take i ++ [r.take k])).length cp), (4, .c (I i)), (5, .c (T r)), (8, .c (.r va (tR c.rows))), (9, .c (I (tR c.rows).length)), (10, .c (I i)), (16, .c (I r.length)), (17, .c (I k))] ∧ H = [celB va c, .arr 162 2 cp (sR (hitC (c.x.tdiv c.st) (c.y.tdiv c.st) (c.rows.take i ++ [r.take k])))]) ?_ ?_
  ·have h0 := hnx 0 (Nat.zero_le _)
   rw [List.take_zero, hitR, List.append_nil] at h0
   refine wk_of [some 0, some 1] (fun _ => [(1, .p 0 0 0), (3, .o 1 0 (hitC (c.x.tdiv c.st) (c.y.tdiv c.st) (c.rows.take i)).length cp), (4, .c (I i)), (5, .c (T r)), (8, .c (.r va (tR c.rows))), (9, .c (I (tR c.rows).length)), (10, .c (I i)), (16, .c (I r.length)), (17, .c (I (0 : Nat)))]) (fun _ => [celB va c, .arr 162 2 cp (sR (hitC (c.x.tdiv c.st) (c.y.tdiv c.st) (c.rows.take i)))]) (by decide) (ZNL hE) ZCF ZCH (fun _ => ?_)
   exact ⟨r.length, 0, cp, by omega, by rw [List.take_zero, h0], by rw [List.take_zero, h0]⟩
  clear cp
  rintro m2 F H ⟨k, cp, hk, rfl, rfl⟩
  have hbk := hbig k
  generalize hA : hitC (c.x.tdiv c.st) (c.y.tdiv c.st) (c.rows.take i ++ [r.take k]) = A at *
  by_cases hkl : k < r.length
  ·obtain ⟨b, hb⟩ : ∃ b, r[k]? = some b := ⟨_, List.getElem?_eq_getElem hkl⟩
   have hrk : r.take (k + 1) = r.take k ++ [b] := by rw [List.take_add_one, hb]; rfl
   have hkl2 : (r.take k).length = k := by rw [List.length_take]; omega
   have hA2 : hitC (c.x.tdiv c.st) (c.y.tdiv c.st) (c.rows.take i ++ [r.take (k + 1)]) = A ++ (if b = 35 then [(c.x.tdiv c.st + (k : Nat), c.y.tdiv c.st + (i : Nat))] else []) := by
    rw [hnx _ (by omega), hrk, hitR_append, hkl2, ← List.append_assoc, ← hnx k (by omega), hA]; simp [hitR]
   have h35 := u8_35 b
   refine WA ?_
   refine aw_cond_t rfl ?_
   refine WA ?_
   refine ZR ?_
   iterate 2 refine WX1 ?_
   refine ZA (rd_idxs (i := k) rfl Tryz.underlying9 rfl rfl rfl hb) ?_
   refine WE ?_
   refine aw_if rfl (fun hb5 => ?_) (fun hb5 => ?_)
   ·rw [decide_eq_true hb5] at h35
    rw [if_pos (by simpa using h35.symm)] at hA2
    refine ZZ ?_
    refine aw_regionT [(0, none), (1, none), (2, none), (3, none), (4, none), (5, none), (6, none), (7, none), (8, none), (9, none), (10, none), (11, none), (12, none), (13, none), (14, none), (15, none), (16, some [0]), (17, some []), (18, none)] hMixed (by kernel_rfl) ?_
    refine WP ?_
    refine at_ef rfl rfl (Zapp (KA (t := 159) rfl)) ?_
    rintro _ _ ⟨_, cc, hcc, rfl, rfl⟩
    refine ⟨ag_none, ?_⟩
    refine WQ ?_
    refine aw_wk (wk_of (K := fun F H => F = [(1, .p 0 0 0), (3, .o 1 0 (A ++ [(c.x.tdiv c.st + (k : Nat), c.y.tdiv c.st + (i : Nat))]).length cc), (4, .c (I i)), (5, .c (T r)), (8, .c (.r va (tR c.rows))), (9, .c (I (tR c.rows).length)), (10, .c (I i)), (16, .c (I r.length)), (17, .c (I k))] ∧ H = [celB va c, .arr 162 2 cc (sR (A ++ [(c.x.tdiv c.st + (k : Nat), c.y.tdiv c.st + (i : Nat))]))]) [some 0, some 1] (fun _ => [(1, .p 0 0 0), (3, .o 1 0 (A ++ [(c.x.tdiv c.st + (k : Nat), c.y.tdiv c.st + (i : Nat))]).length cc), (4, .c (I i)), (5, .c (T r)), (8, .c (.r va (tR c.rows))), (9, .c (I (tR c.rows).length)), (10, .c (I i)), (16, .c (I r.length)), (17, .c (I k))]) (fun _ => [celB va c, .arr 162 2 cc (sR (A ++ [(c.x.tdiv c.st + (k : Nat), c.y.tdiv c.st + (i : Nat))]))]) (by decide) (ZNL hE) ZCF ZCH (fun _ => ⟨rfl, rfl⟩)) ?_
    rintro F H ⟨rfl, rfl⟩
    rw [← hA2]
    generalize hA3 : hitC (c.x.tdiv c.st) (c.y.tdiv c.st) (c.rows.take i ++ [r.take (k + 1)]) = A3 at *
    refine WA ?_
    refine wk_of [some 0, some 1] (fun _ => [(1, .p 0 0 0), (3, .o 1 0 A3.length cc), (4, .c (I i)), (5, .c (T r)), (8, .c (.r va (tR c.rows))), (9, .c (I (tR c.rows).length)), (10, .c (I i)), (16, .c (I r.length)), (17, .c (I (k + 1 : Nat)))]) (fun _ => [celB va c, .arr 162 2 cc (sR A3)]) (by decide) (ZNL hE) ZCF ZCH (fun _ => ?_)
    exact ⟨m2 - 1, by omega, k + 1, cc, by omega, by rw [hA3], by rw [hA3]⟩
   ·rw [decide_eq_false hb5] at h35
    rw [if_neg (by simpa using h35.symm), List.append_nil] at hA2
    refine ZZ ?_
    refine WA ?_
    refine wk_of [some 0, some 1] (fun _ => [(1, .p 0 0 0), (3, .o 1 0 A.length cp), (4, .c (I i)), (5, .c (T r)), (8, .c (.r va (tR c.rows))), (9, .c (I (tR c.rows).length)), (10, .c (I i)), (16, .c (I r.length)), (17, .c (I (k + 1 : Nat)))]) (fun _ => [celB va c, .arr 162 2 cp (sR A)]) (by decide) (ZNL hE) ZCF ZCH (fun _ => ?_)
    exact ⟨m2 - 1, by omega, k + 1, cp, by omega, by rw [hA2], by rw [hA2]⟩
  obtain rfl : k = r.length := by omega
  rw [List.take_length, ← htk] at hA
  refine WA ?_
  refine aw_cond_f rfl ?_
  refine ZZ ?_
  refine WA ?_
  refine wk_of [some 0, some 1] (fun _ => [(1, .p 0 0 0), (3, .o 1 0 A.length cp), (8, .c (.r va (tR c.rows))), (9, .c (I (tR c.rows).length)), (10, .c (I (i + 1 : Nat)))]) (fun _ => [celB va c, .arr 162 2 cp (sR A)]) (by decide) (ZNL hE) ZCF ZCH (fun _ => ?_)
  exact ⟨m - 1, by omega, i + 1, cp, by omega, by rw [hA], by rw [hA]⟩
 obtain rfl : i = c.rows.length := by omega
 rw [List.take_length]
 refine ZZ ?_
 refine WA ?_
 exact aret_f1 (rs := sR (covL c)) [] _ rfl rfl rfl rfl (by rw [List.drop_zero, List.take_of_length_le (by simp)]; rfl) (by rw [List.length_map]; rfl) rfl (by decide) (ZNK rfl) ZCH (fun q => ⟨q, rfl, rfl⟩)
theorem idxpl_v (xf xt : Int) (l : List Spot) (v : Value) (hl : l.length ≤ 1000000000) : ACalls Tryz.prog 136 [.c (.r v (sR l)), .a [.c (I xf), .c (I xt)]] [] fun u H => ∃ r : Int, u = .c (I r) ∧ H = [] ∧ (0 ≤ r ↔ (xf, xt) ∈ l) := by
 have e1 : (sR l).length = l.length := by simp
 refine acalls_of (N := 19) Tryz.func136 rfl rfl (by simp) fun E hE => ?_
 refine WA ?_
 refine WA ?_
 refine aw_loopw (fun m F H => ∃ (k : Nat), m + k = l.length ∧ ((xf, xt) ∈ l.drop k ↔ (xf, xt) ∈ l) ∧ F = [(0, .c (.r v (sR l))), (3, .p 0 0 0), (7, .c (I (sR l).length)), (8, .c (I k))] ∧ H = [.box [.c (I xf), .c (I xt)]]) ?_ ?_
 ·refine wk_of [some 0] (fun _ => [(0, .c (.r v (sR l))), (3, .p 0 0 0), (7, .c (I (sR l).length)), (8, .c (I (0 : Nat)))]) (fun _ => [.box [.c (I xf), .c (I xt)]]) (by decide) (ZNL hE) ZCF ZCH (fun _ => ?_)
  exact ⟨l.length, 0, by omega, Iff.rfl, rfl, rfl⟩
 rintro m F H ⟨k, hk, hf, rfl, rfl⟩
 refine WA ?_
 refine aw_if rfl (fun hlt => ?_) (fun hge => ?_)
 ·obtain ⟨⟨zx, zy⟩, hz⟩ : ∃ e, l[k]? = some e := ⟨_, List.getElem?_eq_getElem (by omega)⟩
  have hfd : (xf, xt) ∈ l.drop k ↔ (xf = zx ∧ xt = zy) ∨ (xf, xt) ∈ l.drop (k + 1) := by
   obtain ⟨h1, h2⟩ := List.getElem?_eq_some_iff.1 hz
   rw [List.drop_eq_getElem_cons h1, List.mem_cons, h2]; simp
  have hrow : (sR l)[k]? = some [I zx, I zy] := by rw [List.getElem?_map, hz]; rfl
  refine WA ?_
  refine ZZ ?_
  refine aw_regionT [(0, none), (1, none), (2, none), (3, none), (4, none), (5, none)] hMixed (by kernel_rfl) ?_
  iterate 5 refine WX2 ?_
  refine ZT rfl (rd_eqla162 rfl rfl rfl) ?_
  refine WQ ?_
  refine aw_if rfl (fun heq => ?_) (fun hne => ?_)
  ·refine WA ?_
   exact aret_1 [] _ rfl rfl rfl (by decide) (ZNK rfl) (fun _ => .nil) ⟨_, rfl, rfl, ⟨fun _ => hf.1 (hfd.2 (.inl heq)), fun _ => by omega⟩⟩
  ·refine ZZ ?_
   refine WA ?_
   refine wk_of [some 0] (fun _ => [(0, .c (.r v (sR l))), (3, .p 0 0 0), (7, .c (I (sR l).length)), (8, .c (I (k + 1 : Nat)))]) (fun _ => [.box [.c (I xf), .c (I xt)]]) (by decide) (ZNL hE) ZCF ZCH (fun _ => ?_)
   exact ⟨m - 1, by omega, k + 1, by omega, ⟨fun h => hf.1 (hfd.2 (.inr h)), fun h => (hfd.1 (hf.2 h)).resolve_left hne⟩, rfl, rfl⟩
 refine WA ?_
 refine aret_1 [] _ rfl rfl rfl (by decide) (ZNK rfl) (fun _ => .nil) ⟨_, rfl, rfl, ?_⟩
 rw [← hf, List.drop_eq_nil_of_le (by omega)]; simp
theorem haspl_v (xf xt : Int) (l : List Spot) (v : Value) (hl : l.length ≤ 1000000000) : ACalls Tryz.prog 95 [.c (.r v (sR l)), .a [.c (I xf), .c (I xt)]] [] fun u H => u = .c (B (decide ((xf, xt) ∈ l))) ∧ H = [] := by
 refine acalls_of (N := 9) Tryz.func95 rfl rfl (by simp) fun E hE => ?_
 refine WA ?_
 refine WR ?_
 refine al_ef rfl (ef_call0 false (fun _ => idxpl_v xf xt l v hl) rfl .fn rfl (by decide) (by kernel_rfl) rfl (fun _ => C0 rfl) (by simp)) ?_
 rintro _ _ ⟨_, _, _, ⟨r, rfl, rfl, hr⟩, hF, hH⟩
 (refine NST hF hH ?_; clear hF hH; rintro rfl rfl)
 refine WE ?_
 refine aret_1 [] _ rfl rfl rfl (by decide) (ZNK rfl) (fun _ => .nil) ⟨congrArg (fun z => AV.c (B z)) ?_, rfl⟩
 rw [Bool.eq_iff_iff, decide_eq_true_iff, decide_eq_true_iff, hr]
end Go.Proofs.YtfilfijammemfaaGreatDoor

/- The reference's cells that are so, by value: these. -/
-- NEWM
namespace Go.Proofs.YtfilfijammemfaaGreatDoor
open Go Go.RowKit
set_option maxRecDepth 100000
end Go.Proofs.YtfilfijammemfaaGreatDoor

/- A struct that a closed pointer points to is loaded; the center of a cell; the reference's Covered and Left, by value. -/
-- NEWM
-- NILC
namespace Go.Proofs.YtfilfijammemfaaGreatDoor
open Go Go.RowKit
set_option maxRecDepth 100000
theorem centq_v (va : Value) (c : Cel) (hs : 1 ≤ c.st ∧ c.st ≤ 10000) (x y : Int) (hx : -20000000 ≤ x ∧ x ≤ 20000000) (hy : -20000000 ≤ y ∧ y ≤ 20000000) : ACalls Tryz.prog 99 [celA va c, .a [.c (I x), .c (I y)]] [] fun u H => u = .a [.c (I (x * c.st + c.st / 2)), .c (I (y * c.st + c.st / 2))] ∧ H = [] := by
 have ehf : wrap64 (c.st.tdiv 2) = c.st / 2 := by
  rw [Int.tdiv_eq_ediv_of_nonneg (by omega)]
  exact IntWalk.wrap64_in _ (by constructor <;> omega)
 have hmul : ∀ z : Int, -20000000 ≤ z ∧ z ≤ 20000000 → -200000000000 ≤ z * c.st ∧ z * c.st ≤ 200000000000 := fun z hz => by
  have h : (z * c.st).natAbs ≤ 20000000 * 10000 := by rw [Int.natAbs_mul]; exact Nat.mul_le_mul (by omega) (by omega)
  omega
 have h1 := hmul x hx
 have h2 := hmul y hy
 have h3 : 0 ≤ c.st / 2 ∧ c.st / 2 ≤ 5000 := by omega
 refine acalls_of (N := 24) Tryz.func99 rfl rfl (by simp) fun E hE => ?_
 refine WA ?_
 refine ZR ?_
 iterate 7 refine WX1 ?_
 refine ZA (rd_quoP (z := c.st / 2) rfl rfl rfl (by decide) ehf) ?_
 iterate 8 refine WX1 ?_
 refine ZA (rd_quoP (z := c.st / 2) rfl rfl rfl (by decide) ehf) ?_
 refine WE ?_
 exact aret_a [] _ rfl (KK (t := 107) rfl) rfl (Cells.box rfl) (by first | (simp; done) | exact Nat.le_refl 2) (by (try simp only [nm, putL, Nat.reduceAdd, cellsOf, cvOf]) <;> rfl) (by decide) (ZNK rfl) (fun _ => C0 rfl) (fun _ => .nil) ⟨rfl, rfl⟩
end Go.Proofs.YtfilfijammemfaaGreatDoor

/- The reference's CoveredOf and LeftOf, by value. -/
-- NILC
namespace Go.Proofs.YtfilfijammemfaaGreatDoor
open Go Go.RowKit
set_option maxRecDepth 100000
end Go.Proofs.YtfilfijammemfaaGreatDoor

/- Walls are shells: plain. -/
namespace Go.Proofs.YtfilfijammemfaaGreatDoor
end Go.Proofs.YtfilfijammemfaaGreatDoor

/- The reference's walls, by value: WallsOf. -/
-- NEWM
namespace Go.Proofs.YtfilfijammemfaaGreatDoor
open Go Go.RowKit
set_option maxRecDepth 100000
theorem rcel_rows {c : Cel} (h : RCel c) : ∀ r ∈ c.rows, r.length ≤ 1000000 ∧ okB2 r = true := fun r hr => by
 have := h.w
 rw [(h.row r hr).1]; exact ⟨by omega, (h.row r hr).2⟩
end Go.Proofs.YtfilfijammemfaaGreatDoor

/- The reference's solid cells, by value: SolidOf. -/
-- NEWM
namespace Go.Proofs.YtfilfijammemfaaGreatDoor
open Go Go.RowKit
set_option maxRecDepth 100000
end Go.Proofs.YtfilfijammemfaaGreatDoor

/- The reference's faults of layers and styles; first, errs, when, by value. -/
-- NEWM
namespace Go.Proofs.YtfilfijammemfaaGreatDoor
open Go Go.RowKit
set_option maxRecDepth 100000
def fstN : List Int → Int
 | [] => 0
 | a :: l => if a = 0 then fstN l else a
theorem fstN_drop {l : List Int} {k : Nat} {n : Int} (h : l[k]? = some n) : fstN (l.drop k) = if n = 0 then fstN (l.drop (k + 1)) else n := by
 obtain ⟨h1, h2⟩ := List.getElem?_eq_some_iff.1 h
 rw [List.drop_eq_getElem_cons h1, h2]; rfl
abbrev nR (l : List Int) : List (List CV) := l.map fun n => [I n]
theorem lerrs_v (l : List Int) (v : Value) (hl : l.length ≤ 1000000) : ACalls Tryz.prog 11 [.c (.r v (nR l))] [] fun u H => u = .c (I (fstN l)) ∧ H = [] := by
 have e1 : (nR l).length = l.length := by simp
 refine acalls_of (N := 15) Tryz.func11 rfl rfl (by simp) fun E hE => ?_
 refine WA ?_
 refine WA ?_
 refine aw_loopw (fun m F H => ∃ (k : Nat), m + k = l.length ∧ fstN (l.drop k) = fstN l ∧ F = [(5, .c (.r v (nR l))), (6, .c (I (nR l).length)), (7, .c (I k))] ∧ H = []) ?_ ?_
 ·refine wk_of [] (fun _ => [(5, .c (.r v (nR l))), (6, .c (I (nR l).length)), (7, .c (I (0 : Nat)))]) (fun _ => _) (by decide) (ZNL hE) ZCF (fun _ => .nil) (fun _ => ?_)
  exact ⟨l.length, 0, by omega, rfl, rfl, rfl⟩
 rintro m F H ⟨k, hk, hf, rfl, rfl⟩
 refine WA ?_
 refine aw_if rfl (fun hlt => ?_) (fun hge => ?_)
 ·obtain ⟨n, hn⟩ : ∃ n, l[k]? = some n := ⟨_, List.getElem?_eq_getElem (by omega)⟩
  have hrow : (nR l)[k]? = some [I n] := by rw [List.getElem?_map, hn]; rfl
  have hd := fstN_drop hn
  refine WA ?_
  refine WA ?_
  refine aw_if rfl (fun hv => ?_) (fun hv => ?_)
  ·refine WA ?_
   exact aret_1 [] _ rfl rfl rfl (by decide) (ZNK rfl) (fun _ => .nil) ⟨by rw [← hf, hd, if_neg hv], rfl⟩
  ·refine WA ?_
   refine wk_of [] (fun _ => [(5, .c (.r v (nR l))), (6, .c (I (nR l).length)), (7, .c (I (k + 1 : Nat)))]) (fun _ => _) (by decide) (ZNL hE) ZCF (fun _ => .nil) (fun _ => ?_)
   exact ⟨m - 1, by omega, k + 1, by omega, by rw [← hf, hd, if_pos (by omega)], rfl, rfl⟩
 refine WA ?_
 exact aret_1 [] _ rfl rfl rfl (by decide) (ZNK rfl) (fun _ => .nil) ⟨by rw [← hf, List.drop_eq_nil_of_le (by omega)]; rfl, rfl⟩
theorem lwhen_v (b : Bool) (n : Int) : ACalls Tryz.prog 14 [.c (B b), .c (I n)] [] fun u H => u = .c (I (if b = true then n else 0)) ∧ H = [] := by
 refine acalls_of (N := 7) Tryz.func14 rfl rfl (by simp) fun E hE => ?_
 cases b with
 | true =>
  refine WA ?_
  refine WA ?_
  refine aw_cond_t rfl ?_
  refine WA ?_
  exact aret_1 [] _ rfl rfl rfl (by decide) (ZNK rfl) (fun _ => .nil) ⟨rfl, rfl⟩
 | false =>
  refine WA ?_
  refine WA ?_
  refine aw_cond_f rfl ?_
  refine ZZ ?_
  refine WA ?_
  exact aret_1 [] _ rfl rfl rfl (by decide) (ZNK rfl) (fun _ => .nil) ⟨rfl, rfl⟩
end Go.Proofs.YtfilfijammemfaaGreatDoor

/- Cells that are the same, fillings that are the same, by value. -/
-- NEWM
namespace Go.Proofs.YtfilfijammemfaaGreatDoor
open Go Go.RowKit
set_option maxRecDepth 100000
end Go.Proofs.YtfilfijammemfaaGreatDoor
