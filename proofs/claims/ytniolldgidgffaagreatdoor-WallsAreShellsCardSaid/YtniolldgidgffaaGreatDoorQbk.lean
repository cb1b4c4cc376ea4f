/- Cells that are the same, fillings that are the same, by value. -/
import Derived.Test.YtniolldgidgffaaGreatDoorQbj
set_option linter.unusedSimpArgs false
set_option linter.unusedVariables false
/- Cells that are the same, fillings that are the same, by value. -/
-- NEWM
namespace Go.Proofs.YtniolldgidgffaaGreatDoor
open Go Go.RowKit
set_option maxRecDepth 100000
theorem rd_neqsqs {P : Program} {N : Nat} {E : Env} {F : Fm} {H : List OB} {o : Oper} {t yt : TypeId} {x y : Operand} {a b : List UInt8} {q : Bool} (h : decide (a ≠ b) = q) (ho : o.op = .binOp .neq t x y yt) (ht : P.underlying t = some .string) (hx : ev F x = some (.c (T a))) (hy : ev F y = some (.c (T b))) : Rd P N E o F H (.c (B q)) := h ▸ rd_neqs ho ht hx hy
theorem eqstr_v (va vb : Value) (rows : List (List UInt8)) (hl : rows.length ≤ 1000000000) : ACalls Tryz.prog 107 [.c (.r va (tR rows)), .c (.r vb (tR rows))] [] fun u H => u = .c (B true) ∧ H = [] := by
 have e1 : (tR rows).length = rows.length := by simp
 refine acalls_of (N := 26) Tryz.func107 rfl rfl (by simp) fun E hE => ?_
 refine WA ?_
 refine WA ?_
 refine aw_cond_f rfl ?_
 refine ZZ ?_
 refine WA ?_
 refine aw_loopw (fun m F H => ∃ k : Nat, m + k = rows.length ∧ F = [(0, .c (.r va (tR rows))), (1, .c (.r vb (tR rows))), (12, .c (I (tR rows).length)), (13, .c (I k))] ∧ H = []) ?_ ?_
 ·refine wk_of [] (fun _ => [(0, .c (.r va (tR rows))), (1, .c (.r vb (tR rows))), (12, .c (I (tR rows).length)), (13, .c (I (0 : Nat)))]) (fun _ => _) (by decide) (ZNL hE) ZCF (fun _ => .nil) (fun _ => ?_)
  exact ⟨rows.length, 0, by omega, rfl, rfl⟩
 rintro m F H ⟨k, hk, rfl, rfl⟩
 refine WA ?_
 refine aw_if rfl (fun hlt => ?_) (fun hge => ?_)
 ·obtain ⟨r, hri⟩ : ∃ r, rows[k]? = some r := ⟨_, List.getElem?_eq_getElem (by omega)⟩
  have hrow : (tR rows)[k]? = some [T r] := by rw [List.getElem?_map, hri]; rfl
  refine WA ?_
  refine ZZ ?_
  refine aw_regionT [(0, none), (1, none), (2, none), (3, none), (4, none), (5, none), (6, none), (7, none), (8, none)] hMixed (by kernel_rfl) ?_
  iterate 8 refine WX2 ?_
  refine ZT rfl (rd_neqsqs (decide_eq_false (fun h => h rfl)) rfl Tryz.underlying9 rfl rfl) ?_
  refine WQ ?_
  refine aw_cond_f rfl ?_
  refine ZZ ?_
  refine WA ?_
  refine wk_of [] (fun _ => [(0, .c (.r va (tR rows))), (1, .c (.r vb (tR rows))), (12, .c (I (tR rows).length)), (13, .c (I (k + 1 : Nat)))]) (fun _ => _) (by decide) (ZNL hE) ZCF (fun _ => .nil) (fun _ => ?_)
  exact ⟨m - 1, by omega, k + 1, by omega, rfl, rfl⟩
 refine ZZ ?_
 refine WA ?_
 exact aret_1 [] _ rfl rfl rfl (by decide) (ZNK rfl) (fun _ => .nil) ⟨rfl, rfl⟩
theorem samec_v (va vb : Value) (c : Cel) (hl : c.rows.length ≤ 1000000000) : ACalls Tryz.prog 34 [celA va c, celA vb c] [] fun u H => u = .c (B true) ∧ H = [] := by
 obtain ⟨st, x, y, rows⟩ := c
 simp only at hl
 have h1 : st = st := rfl
 have h2 : x = x := rfl
 have h3 : y = y := rfl
 refine acalls_of (N := 31) Tryz.func34 rfl rfl (by simp) fun E hE => ?_
 refine WA ?_
 refine WR ?_
 first | refine ZS ?_ | (refine G1 rfl ?_; refine al_ef rfl (ef_call0 false (fun _ => eqstr_v va vb rows hl) rfl .fn rfl (by decide) (by kernel_rfl) rfl (fun _ => C0 rfl) (by simp)) ?_; rintro _ _ ⟨_, _, _, ⟨rfl, rfl⟩, hF, hH⟩; (refine NST hF hH ?_; clear hF hH; rintro rfl rfl)) | skip
 refine WE ?_
 exact aret_1 [] _ rfl rfl rfl (by decide) (ZNK rfl) (fun _ => .nil) ⟨rfl, rfl⟩
abbrev celP (p : Value × Cel) : List CV := celR p.1 p.2
set_option maxHeartbeats 1000000 in
theorem eqfcel_v (fn : FuncId) (hfn : okFn Tryz.prog fn = true) (va vb : Value) (la lb : List (Value × Cel)) (hll : la.length = lb.length) (hl : la.length ≤ 1000000000) (hcall : ∀ (k : Nat) (a b : Value × Cel), la[k]? = some a → lb[k]? = some b → ACalls Tryz.prog fn [.a ((celP a).map .c), .a ((celP b).map .c)] [] fun u H => u = .c (B true) ∧ H = []) : ACalls Tryz.prog 48 [.c (.r va (la.map celP)), .c (.r vb (lb.map celP)), .f (.func fn) []] [] fun u H => u = .c (B true) ∧ H = [] := by
 have e1 : (la.map celP).length = la.length := by simp
 have e2 : (lb.map celP).length = la.length := by simp [hll]
 have hne : ¬ ((la.map celP).length : Int) ≠ ((lb.map celP).length : Int) := by omega
 refine acalls_of (N := 32) Tryz.func48 rfl rfl (by simp) fun E hE => ?_
 refine WA ?_
 refine WA ?_
 refine aw_cond_f rfl ?_
 refine ZZ ?_
 refine WA ?_
 refine aw_loopw (fun m F H => ∃ k : Nat, m + k = la.length ∧ F = [(0, .c (.r va (la.map celP))), (1, .c (.r vb (lb.map celP))), (2, .f (.func fn) []), (15, .c (.r va (la.map celP))), (16, .c (I (la.map celP).length)), (17, .c (I k))] ∧ H = []) ?_ ?_
 ·refine wk_of [] (fun _ => [(0, .c (.r va (la.map celP))), (1, .c (.r vb (lb.map celP))), (2, .f (.func fn) []), (15, .c (.r va (la.map celP))), (16, .c (I (la.map celP).length)), (17, .c (I (0 : Nat)))]) (fun _ => _) (by decide) (ZNL hE) ZCF (fun _ => .nil) (fun _ => ?_)
  exact ⟨la.length, 0, by omega, rfl, rfl⟩
 rintro m F H ⟨k, hk, rfl, rfl⟩
 refine WA ?_
 refine aw_if rfl (fun hlt => ?_) (fun hge => ?_)
 ·obtain ⟨ea, hza⟩ : ∃ e, la[k]? = some e := ⟨_, List.getElem?_eq_getElem (by omega)⟩
  obtain ⟨eb, hzb⟩ : ∃ e, lb[k]? = some e := ⟨_, List.getElem?_eq_getElem (by omega)⟩
  have hrowa : (la.map celP)[k]? = some (celP ea) := by rw [List.getElem?_map, hza]; rfl
  have hrowb : (lb.map celP)[k]? = some (celP eb) := by rw [List.getElem?_map, hzb]; rfl
  refine WA ?_
  refine WA ?_
  refine WR ?_
  refine al_ef rfl (ef_call0 false (fun _ => hcall k _ _ hza hzb) rfl (.clo rfl) rfl (by decide) hfn rfl (fun _ => C0 rfl) (by simp)) ?_
  rintro _ _ ⟨_, _, _, ⟨rfl, rfl⟩, hF, hH⟩
  (refine NST hF hH ?_; clear hF hH; rintro rfl rfl)
  refine WE ?_
  refine aw_cond_f rfl ?_
  refine ZZ ?_
  refine WA ?_
  refine wk_of [] (fun _ => [(0, .c (.r va (la.map celP))), (1, .c (.r vb (lb.map celP))), (2, .f (.func fn) []), (15, .c (.r va (la.map celP))), (16, .c (I (la.map celP).length)), (17, .c (I (k + 1 : Nat)))]) (fun _ => _) (by decide) (ZNL hE) ZCF (fun _ => .nil) (fun _ => ?_)
  exact ⟨m - 1, by omega, k + 1, by omega, rfl, rfl⟩
 refine ZZ ?_
 refine WA ?_
 exact aret_1 [] _ rfl rfl rfl (by decide) (ZNK rfl) (fun _ => .nil) ⟨rfl, rfl⟩
theorem samecs_v (va vb : Value) (la lb : List (Value × Cel)) (h : la.map Prod.snd = lb.map Prod.snd) (hl : la.length ≤ 1000000000) (hr : ∀ p ∈ la, p.2.rows.length ≤ 1000000000) : ACalls Tryz.prog 48 [.c (.r va (cR la)), .c (.r vb (cR lb)), .f (.func 34) []] [] fun u H => u = .c (B true) ∧ H = [] := by
 refine eqfcel_v 34 (by kernel_rfl) va vb la lb (by have := congrArg List.length h; simpa using this) hl fun k a b ha hb => ?_
 have h1 : (la.map Prod.snd)[k]? = some a.2 := by rw [List.getElem?_map, ha]; rfl
 rw [h, List.getElem?_map, hb] at h1
 have h2 : b.2 = a.2 := Option.some.inj h1
 have := samec_v a.1 b.1 a.2 (hr a (List.mem_of_getElem? ha))
 rw [show celA b.1 a.2 = celA b.1 b.2 by rw [h2]] at this
 exact this
end Go.Proofs.YtniolldgidgffaaGreatDoor
