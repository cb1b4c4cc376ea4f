/- Cells that are the same, fillings that are the same, by value. -/
import Derived.Test.YtniolldgidgffaaGreatDoorQbo
import Derived.Test.YtniolldgidgffaaGreatDoorQbh
import Derived.Test.YtniolldgidgffaaGreatDoorQbc
import Derived.Test.YtniolldgidgffaaGreatDoorQbm
set_option linter.unusedSimpArgs false
set_option linter.unusedVariables false
/- The reference's CoveredOf and LeftOf, by value. -/
-- NILC
namespace Go.Proofs.YtniolldgidgffaaGreatDoor
open Go Go.RowKit
set_option maxRecDepth 100000
theorem ctr_bd {c : Cel} (h : RCel c) {p : Spot} (hp : p ∈ covL c) : ((-20000000 ≤ p.1 ∧ p.1 ≤ 20000000) ∧ (-20000000 ≤ p.2 ∧ p.2 ≤ 20000000)) ∧ (-100000000 ≤ p.1 * c.st + c.st / 2 ∧ p.1 * c.st + c.st / 2 ≤ 100000000) ∧ (-100000000 ≤ p.2 * c.st + c.st / 2 ∧ p.2 * c.st + c.st / 2 ≤ 100000000) := by
 obtain ⟨a1, a2, a3, a4, a5, a6⟩ := covL_in h hp
 obtain ⟨b1, b2⟩ := h.at
 have hst := h.st
 have hw := h.w
 have hh := h.h
 have hf := h.far
 have hX : -2000000 ≤ c.x.tdiv c.st ∧ c.x.tdiv c.st ≤ 2000000 := tdiv_bd (by omega) hf.1
 have hY : -2000000 ≤ c.y.tdiv c.st ∧ c.y.tdiv c.st ≤ 2000000 := tdiv_bd (by omega) hf.2
 have key : ∀ d : Int, 0 ≤ d ∧ d ≤ 200 → 0 ≤ d * c.st ∧ d * c.st ≤ 2000000 := fun d hd => by
  have h1 : (d * c.st).natAbs ≤ 200 * 10000 := by rw [Int.natAbs_mul]; exact Nat.mul_le_mul (by omega) (by omega)
  have h2 : 0 ≤ d * c.st := Int.mul_nonneg hd.1 (by omega)
  omega
 have e1 : p.1 * c.st = c.x + (p.1 - c.x.tdiv c.st) * c.st := by rw [Int.sub_mul, b1]; omega
 have e2 : p.2 * c.st = c.y + (p.2 - c.y.tdiv c.st) * c.st := by rw [Int.sub_mul, b2]; omega
 have k1 := key (p.1 - c.x.tdiv c.st) (by omega)
 have k2 := key (p.2 - c.y.tdiv c.st) (by omega)
 rw [e1, e2]
 omega
theorem covof1_v (va v p2 p3 : Value) (c : Cel) (h : RCel c) (l : List Wy) (hl : l.length ≤ 1000000) (hpb : ∀ w ∈ l, w.pts.length ≤ 1000 ∧ ∀ q ∈ w.pts, (-100000 ≤ q.1 ∧ q.1 ≤ 100000) ∧ (-100000 ≤ q.2 ∧ q.2 ≤ 100000)) (x y : Int) (hxy : (x, y) ∈ covL c) : ACalls Tryz.prog 101 [.a [.c (I x), .c (I y)], .c (.p p3 [.r v (wyR l)]), .c (.p p2 [I c.st, I c.x, I c.y, .r va (tR c.rows)])] [] fun u H => u = .c (B (ledB l (ctrS c.st (x, y)))) ∧ H = [] := by
 have hs : 1 ≤ c.st ∧ c.st ≤ 10000 := by have := h.st; omega
 have hb := ctr_bd h hxy
 simp only at hb
 refine acalls_of (N := 10) Tryz.func101 rfl rfl (by simp) fun E hE => ?_
 refine WA ?_
 refine ZZ ?_
 refine aw_regionT [(0, none), (1, none), (2, none), (3, some [0]), (4, some []), (5, none)] hMixed (by kernel_rfl) ?_
 refine ZT rfl (rd_ldcp rfl (by kernel_rfl) rfl rfl) ?_
 refine ZT rfl (rd_ldcs (cs := [.c (I c.st), .c (I c.x), .c (I c.y), .c (.r va (tR c.rows))]) rfl rfl (KK (t := 28) rfl) rfl (by simp)) ?_
 refine WP ?_
 refine at_ef rfl rfl (ef_call0 false (fun _ => centq_v va c hs x y hb.1.1 hb.1.2) rfl .fn rfl (by decide) (by kernel_rfl) rfl (fun _ => C0 rfl) (by simp)) ?_
 rintro _ _ ⟨_, _, _, ⟨rfl, rfl⟩, hF, hH⟩
 (refine NST hF hH ?_; clear hF hH; rintro rfl rfl)
 refine ⟨ag_cons (by first | exact ag_rd rfl rfl rfl (rd_ldcp rfl (by kernel_rfl) rfl rfl) rfl) (ag_none), ?_⟩
 refine at_ef rfl rfl (ef_call0 false (fun _ => led_v v l (x * c.st + c.st / 2) (y * c.st + c.st / 2) hl hb.2 hpb) rfl .fn rfl (by decide) (by kernel_rfl) rfl (fun _ => C0 rfl) (by simp)) ?_
 rintro _ _ ⟨_, _, _, ⟨rfl, rfl⟩, hF, hH⟩
 (refine NST hF hH ?_; clear hF hH; rintro rfl rfl)
 refine ⟨ag_none, ?_⟩
 refine WQ ?_
 exact aret_1 [] _ rfl rfl rfl (by decide) (ZNK rfl) (fun _ => .nil) ⟨rfl, rfl⟩
theorem lefof1_v (va v p2 p3 : Value) (c : Cel) (h : RCel c) (l : List Wy) (hl : l.length ≤ 1000000) (hpb : ∀ w ∈ l, w.pts.length ≤ 1000 ∧ ∀ q ∈ w.pts, (-100000 ≤ q.1 ∧ q.1 ≤ 100000) ∧ (-100000 ≤ q.2 ∧ q.2 ≤ 100000)) (x y : Int) (hxy : (x, y) ∈ covL c) : ACalls Tryz.prog 104 [.a [.c (I x), .c (I y)], .c (.p p3 [.r v (wyR l)]), .c (.p p2 [I c.st, I c.x, I c.y, .r va (tR c.rows)])] [] fun u H => u = .c (B (!ledB l (ctrS c.st (x, y)))) ∧ H = [] := by
 have hs : 1 ≤ c.st ∧ c.st ≤ 10000 := by have := h.st; omega
 have hb := ctr_bd h hxy
 simp only at hb
 refine acalls_of (N := 11) Tryz.func104 rfl rfl (by simp) fun E hE => ?_
 refine WA ?_
 refine ZZ ?_
 refine aw_regionT [(0, none), (1, none), (2, none), (3, some [0]), (4, some []), (5, none), (6, none)] hMixed (by kernel_rfl) ?_
 refine ZT rfl (rd_ldcp rfl (by kernel_rfl) rfl rfl) ?_
 refine ZT rfl (rd_ldcs (cs := [.c (I c.st), .c (I c.x), .c (I c.y), .c (.r va (tR c.rows))]) rfl rfl (KK (t := 28) rfl) rfl (by simp)) ?_
 refine WP ?_
 refine at_ef rfl rfl (ef_call0 false (fun _ => centq_v va c hs x y hb.1.1 hb.1.2) rfl .fn rfl (by decide) (by kernel_rfl) rfl (fun _ => C0 rfl) (by simp)) ?_
 rintro _ _ ⟨_, _, _, ⟨rfl, rfl⟩, hF, hH⟩
 (refine NST hF hH ?_; clear hF hH; rintro rfl rfl)
 refine ⟨ag_cons (by first | exact ag_rd rfl rfl rfl (rd_ldcp rfl (by kernel_rfl) rfl rfl) rfl) (ag_none), ?_⟩
 refine at_ef rfl rfl (ef_call0 false (fun _ => led_v v l (x * c.st + c.st / 2) (y * c.st + c.st / 2) hl hb.2 hpb) rfl .fn rfl (by decide) (by kernel_rfl) rfl (fun _ => C0 rfl) (by simp)) ?_
 rintro _ _ ⟨_, _, _, ⟨rfl, rfl⟩, hF, hH⟩
 (refine NST hF hH ?_; clear hF hH; rintro rfl rfl)
 refine ⟨ag_none, ?_⟩
 refine WQ ?_
 exact aret_1 [] _ rfl rfl rfl (by decide) (ZNK rfl) (fun _ => .nil) ⟨rfl, rfl⟩
theorem covof_v (va v : Value) (c : Cel) (h : RCel c) (l : List Wy) (hl : l.length ≤ 1000000) (hpb : ∀ w ∈ l, w.pts.length ≤ 1000 ∧ ∀ q ∈ w.pts, (-100000 ≤ q.1 ∧ q.1 ≤ 100000) ∧ (-100000 ≤ q.2 ∧ q.2 ≤ 100000)) : ACalls Tryz.prog 31 [celA va c, .c (.r v (wyR l))] [] fun u H => ∃ v', u = celA v' (normC c.st (covT l c)).1 ∧ H = [] := by
 have hR : normC c.st ((covL c).filter fun q => ledB l (ctrS c.st q)) = normC c.st (covT l c) := rfl
 generalize normC c.st (covT l c) = R at *
 refine acalls_of (N := 8) Tryz.func31 rfl rfl (by simp) fun E hE => ?_
 refine WA ?_
 refine aw_wk (wk_of (K := fun F H => ∃ p2 p3, F = [(2, .c (.p p2 [I c.st, I c.x, I c.y, .r va (tR c.rows)])), (3, .c (.p p3 [.r v (wyR l)])), (4, .p 0 0 0)] ∧ H = [.box [.c (I 0), .c (I 0), .c (I 0), .c (.r (.slice none 0 0) [])]]) [some 2] (fun f => [(2, .c (.p (f (.p 0 0 0)) [I c.st, I c.x, I c.y, .r va (tR c.rows)])), (3, .c (.p (f (.p 1 0 0)) [.r v (wyR l)])), (4, .p 0 0 0)]) (fun _ => [.box [.c (I 0), .c (I 0), .c (I 0), .c (.r (.slice none 0 0) [])]]) (by decide) (ZNL hE) (fun _ => .cons rfl (frzpL rfl rfl (.cons (.c rfl) (.cons (.c rfl) (.cons (.c rfl) (.cons (.c rfl) .nil))))) (.cons rfl (frzpL rfl rfl (.cons (.c rfl) .nil)) (.cons rfl (.p rfl) .nil))) ZCH (fun _ => ⟨_, _, rfl, rfl⟩)) ?_
 rintro F H ⟨p2, p3, rfl, rfl⟩
 refine ZR ?_
 refine ZA (rd_ldcs (cs := [.c (I c.st), .c (I c.x), .c (I c.y), .c (.r va (tR c.rows))]) rfl rfl (KK (t := 28) rfl) rfl (by simp)) ?_
 refine WO ?_
 refine al_ef rfl (ef_call0 false (fun _ => these_v 101 [.c (.p p3 [.r v (wyR l)]), .c (.p p2 [I c.st, I c.x, I c.y, .r va (tR c.rows)])] rfl (by kernel_rfl) (fun q => ledB l (ctrS c.st q)) va c h (fun x y hxy => covof1_v va v p2 p3 c h l hl hpb x y hxy)) rfl .fn rfl (by decide) (by kernel_rfl) rfl (fun _ => C0 rfl) (by simp)) ?_
 rintro _ _ ⟨_, _, _, ⟨v', rfl, rfl⟩, hF, hH⟩
 rw [hR] at hF
 (refine NST hF hH ?_; clear hF hH; rintro rfl rfl)
 refine WE ?_
 exact aret_a [] _ rfl (KK (t := 28) rfl) rfl (Cells.box rfl) (by first | (simp; done) | exact Nat.le_refl 4) (by (try simp only [nm, putL, Nat.reduceAdd, cellsOf, cvOf]) <;> rfl) (by decide) (ZNK rfl) (fun _ => C0 rfl) (fun _ => .nil) ⟨v', rfl, rfl⟩
theorem lefof_v (va v : Value) (c : Cel) (h : RCel c) (l : List Wy) (hl : l.length ≤ 1000000) (hpb : ∀ w ∈ l, w.pts.length ≤ 1000 ∧ ∀ q ∈ w.pts, (-100000 ≤ q.1 ∧ q.1 ≤ 100000) ∧ (-100000 ≤ q.2 ∧ q.2 ≤ 100000)) : ACalls Tryz.prog 32 [celA va c, .c (.r v (wyR l))] [] fun u H => ∃ v', u = celA v' (normC c.st (lefT l c)).1 ∧ H = [] := by
 have hR : normC c.st ((covL c).filter fun q => !ledB l (ctrS c.st q)) = normC c.st (lefT l c) := rfl
 generalize normC c.st (lefT l c) = R at *
 refine acalls_of (N := 8) Tryz.func32 rfl rfl (by simp) fun E hE => ?_
 refine WA ?_
 refine aw_wk (wk_of (K := fun F H => ∃ p2 p3, F = [(2, .c (.p p2 [I c.st, I c.x, I c.y, .r va (tR c.rows)])), (3, .c (.p p3 [.r v (wyR l)])), (4, .p 0 0 0)] ∧ H = [.box [.c (I 0), .c (I 0), .c (I 0), .c (.r (.slice none 0 0) [])]]) [some 2] (fun f => [(2, .c (.p (f (.p 0 0 0)) [I c.st, I c.x, I c.y, .r va (tR c.rows)])), (3, .c (.p (f (.p 1 0 0)) [.r v (wyR l)])), (4, .p 0 0 0)]) (fun _ => [.box [.c (I 0), .c (I 0), .c (I 0), .c (.r (.slice none 0 0) [])]]) (by decide) (ZNL hE) (fun _ => .cons rfl (frzpL rfl rfl (.cons (.c rfl) (.cons (.c rfl) (.cons (.c rfl) (.cons (.c rfl) .nil))))) (.cons rfl (frzpL rfl rfl (.cons (.c rfl) .nil)) (.cons rfl (.p rfl) .nil))) ZCH (fun _ => ⟨_, _, rfl, rfl⟩)) ?_
 rintro F H ⟨p2, p3, rfl, rfl⟩
 refine ZR ?_
 refine ZA (rd_ldcs (cs := [.c (I c.st), .c (I c.x), .c (I c.y), .c (.r va (tR c.rows))]) rfl rfl (KK (t := 28) rfl) rfl (by simp)) ?_
 refine WO ?_
 refine al_ef rfl (ef_call0 false (fun _ => these_v 104 [.c (.p p3 [.r v (wyR l)]), .c (.p p2 [I c.st, I c.x, I c.y, .r va (tR c.rows)])] rfl (by kernel_rfl) (fun q => !ledB l (ctrS c.st q)) va c h (fun x y hxy => lefof1_v va v p2 p3 c h l hl hpb x y hxy)) rfl .fn rfl (by decide) (by kernel_rfl) rfl (fun _ => C0 rfl) (by simp)) ?_
 rintro _ _ ⟨_, _, _, ⟨v', rfl, rfl⟩, hF, hH⟩
 rw [hR] at hF
 (refine NST hF hH ?_; clear hF hH; rintro rfl rfl)
 refine WE ?_
 exact aret_a [] _ rfl (KK (t := 28) rfl) rfl (Cells.box rfl) (by first | (simp; done) | exact Nat.le_refl 4) (by (try simp only [nm, putL, Nat.reduceAdd, cellsOf, cvOf]) <;> rfl) (by decide) (ZNK rfl) (fun _ => C0 rfl) (fun _ => .nil) ⟨v', rfl, rfl⟩
end Go.Proofs.YtniolldgidgffaaGreatDoor

/- Walls are shells: plain. -/
namespace Go.Proofs.YtniolldgidgffaaGreatDoor
end Go.Proofs.YtniolldgidgffaaGreatDoor

/- The reference's walls, by value: WallsOf. -/
-- NEWM
namespace Go.Proofs.YtniolldgidgffaaGreatDoor
open Go Go.RowKit
set_option maxRecDepth 100000
end Go.Proofs.YtniolldgidgffaaGreatDoor

/- The reference's solid cells, by value: SolidOf. -/
-- NEWM
namespace Go.Proofs.YtniolldgidgffaaGreatDoor
open Go Go.RowKit
set_option maxRecDepth 100000
end Go.Proofs.YtniolldgidgffaaGreatDoor

/- The reference's faults of layers and styles; first, errs, when, by value. -/
-- NEWM
namespace Go.Proofs.YtniolldgidgffaaGreatDoor
open Go Go.RowKit
set_option maxRecDepth 100000
def fstN : List Int → Int
 | [] => 0
 | a :: l => if a = 0 then fstN l else a
theorem fstN_drop {l : List Int} {k : Nat} {n : Int} (h : l[k]? = some n) : fstN (l.drop k) = if n = 0 then fstN (l.drop (k + 1)) else n := by
 obtain ⟨h1, h2⟩ := List.getElem?_eq_some_iff.1 h
 rw [List.drop_eq_getElem_cons h1, h2]; rfl
abbrev nR (l : List Int) : List (List CV) := l.map fun n => [I n]
theorem lerrs_v (l : List Int) (v : Value) (hl : l.length ≤ 1000000) : ACalls Tryz.prog 17 [.c (.r v (nR l))] [] fun u H => u = .c (I (fstN l)) ∧ H = [] := by
 have e1 : (nR l).length = l.length := by simp
 refine acalls_of (N := 15) Tryz.func17 rfl rfl (by simp) fun E hE => ?_
 refine WA ?_
 refine WA ?_
 refine aw_loopw (fun m F H => ∃ (k : Nat), m + k = l.length ∧ fstN (l.drop k) = fstN l ∧ F = [(5, .c (.r v (nR l))), (6, .c (I (nR l).length)), (7, .c (I k))] ∧ H = []) ?_ ?_
 ·refine wk_of [] (fun _ => [(5, .c (.r v (nR l))), (6, .c (I (nR l).length)), (7, .c (I (0 : Nat)))]) (fun _ => _) (by decide) (ZNL hE) ZCF (fun _ => .nil) (fun _ => ?_)
  exact ⟨l.length, 0, by omega, rfl, rfl, rfl⟩
 rintro m F H ⟨k, hk, hf, rfl, rfl⟩
 refine WA ?_
 refine aw_if rfl (fun hlt => ?_) (fun hge => ?_)
 ·obtain ⟨n, hn⟩ : ∃ n, l[k]? = some n := ⟨_, List.getElem?_eq_getElem (by omega)⟩
  have hrow : (nR l)[k]? = some [I n] := by rw [List.getElem?_map, hn]; rfl
  have hd := fstN_drop hn
  refine WA ?_
  refine WA ?_
  refine aw_if rfl (fun hv => ?_) (fun hv => ?_)
  ·refine WA ?_
   exact aret_1 [] _ rfl rfl rfl (by decide) (ZNK rfl) (fun _ => .nil) ⟨by rw [← hf, hd, if_neg hv], rfl⟩
  ·refine WA ?_
   refine wk_of [] (fun _ => [(5, .c (.r v (nR l))), (6, .c (I (nR l).length)), (7, .c (I (k + 1 : Nat)))]) (fun _ => _) (by decide) (ZNL hE) ZCF (fun _ => .nil) (fun _ => ?_)
   exact ⟨m - 1, by omega, k + 1, by omega, by rw [← hf, hd, if_pos (by omega)], rfl, rfl⟩
 refine WA ?_
 exact aret_1 [] _ rfl rfl rfl (by decide) (ZNK rfl) (fun _ => .nil) ⟨by rw [← hf, List.drop_eq_nil_of_le (by omega)]; rfl, rfl⟩
end Go.Proofs.YtniolldgidgffaaGreatDoor

/- Cells that are the same, fillings that are the same, by value. -/
-- NEWM
namespace Go.Proofs.YtniolldgidgffaaGreatDoor
open Go Go.RowKit
set_option maxRecDepth 100000
theorem rd_neqsqs {P : Program} {N : Nat} {E : Env} {F : Fm} {H : List OB} {o : Oper} {t yt : TypeId} {x y : Operand} {a b : List UInt8} {q : Bool} (h : decide (a ≠ b) = q) (ho : o.op = .binOp .neq t x y yt) (ht : P.underlying t = some .string) (hx : ev F x = some (.c (T a))) (hy : ev F y = some (.c (T b))) : Rd P N E o F H (.c (B q)) := h ▸ rd_neqs ho ht hx hy
theorem eqstr_v (va vb : Value) (rows : List (List UInt8)) (hl : rows.length ≤ 1000000000) : ACalls Tryz.prog 107 [.c (.r va (tR rows)), .c (.r vb (tR rows))] [] fun u H => u = .c (B true) ∧ H = [] := by
 have e1 : (tR rows).length = rows.length := by simp
 refine acalls_of (N := 26) Tryz.func107 rfl rfl (by simp) fun E hE => ?_
 refine WA ?_
 refine WA ?_
 refine aw_cond_f rfl ?_
 refine ZZ ?_
 refine WA ?_
 refine aw_loopw (fun m F H => ∃ k : Nat, m + k = rows.length ∧ F = [(0, .c (.r va (tR rows))), (1, .c (.r vb (tR rows))), (12, .c (I (tR rows).length)), (13, .c (I k))] ∧ H = []) ?_ ?_
 ·refine wk_of [] (fun _ => [(0, .c (.r va (tR rows))), (1, .c (.r vb (tR rows))), (12, .c (I (tR rows).length)), (13, .c (I (0 : Nat)))]) (fun _ => _) (by decide) (ZNL hE) ZCF (fun _ => .nil) (fun _ => ?_)
  exact ⟨rows.length, 0, by omega, rfl, rfl⟩
 rintro m F H ⟨k, hk, rfl, rfl⟩
 refine WA ?_
 refine aw_if rfl (fun hlt => ?_) (fun hge => ?_)
 ·obtain ⟨r, hri⟩ : ∃ r, rows[k]? = some r := ⟨_, List.getElem?_eq_getElem (by omega)⟩
  have hrow : (tR rows)[k]? = some [T r] := by rw [List.getElem?_map, hri]; rfl
  refine WA ?_
  refine ZZ ?_
  refine aw_regionT [(0, none), (1, none), (2, none), (3, none), (4, none), (5, none), (6, none), (7, none), (8, none)] hMixed (by kernel_rfl) ?_
  iterate 8 refine WX2 ?_
  refine ZT rfl (rd_neqsqs (decide_eq_false (fun h => h rfl)) rfl Tryz.underlying9 rfl rfl) ?_
  refine WQ ?_
  refine aw_cond_f rfl ?_
  refine ZZ ?_
  refine WA ?_
  refine wk_of [] (fun _ => [(0, .c (.r va (tR rows))), (1, .c (.r vb (tR rows))), (12, .c (I (tR rows).length)), (13, .c (I (k + 1 : Nat)))]) (fun _ => _) (by decide) (ZNL hE) ZCF (fun _ => .nil) (fun _ => ?_)
  exact ⟨m - 1, by omega, k + 1, by omega, rfl, rfl⟩
 refine ZZ ?_
 refine WA ?_
 exact aret_1 [] _ rfl rfl rfl (by decide) (ZNK rfl) (fun _ => .nil) ⟨rfl, rfl⟩
theorem samec_v (va vb : Value) (c : Cel) (hl : c.rows.length ≤ 1000000000) : ACalls Tryz.prog 34 [celA va c, celA vb c] [] fun u H => u = .c (B true) ∧ H = [] := by
 obtain ⟨st, x, y, rows⟩ := c
 simp only at hl
 have h1 : st = st := rfl
 have h2 : x = x := rfl
 have h3 : y = y := rfl
 refine acalls_of (N := 31) Tryz.func34 rfl rfl (by simp) fun E hE => ?_
 refine WA ?_
 refine WR ?_
 first | refine ZS ?_ | (refine G1 rfl ?_; refine al_ef rfl (ef_call0 false (fun _ => eqstr_v va vb rows hl) rfl .fn rfl (by decide) (by kernel_rfl) rfl (fun _ => C0 rfl) (by simp)) ?_; rintro _ _ ⟨_, _, _, ⟨rfl, rfl⟩, hF, hH⟩; (refine NST hF hH ?_; clear hF hH; rintro rfl rfl)) | skip
 refine WE ?_
 exact aret_1 [] _ rfl rfl rfl (by decide) (ZNK rfl) (fun _ => .nil) ⟨rfl, rfl⟩
end Go.Proofs.YtniolldgidgffaaGreatDoor
