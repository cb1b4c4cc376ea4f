/- Paths are compared: slices.Equal of points, SamePaths. -/
import Derived.Test.YtfilfijammemfaaGreatDoorQbh
import Derived.Test.YtfilfijammemfaaGreatDoorQbe
set_option linter.unusedSimpArgs false
set_option linter.unusedVariables false
/- Paths are compared: slices.Equal of points, SamePaths. -/
-- NEWM
namespace Go.Proofs.YtfilfijammemfaaGreatDoor
open Go Go.RowKit
set_option maxRecDepth 100000
theorem rd_nepq {N : Nat} {E : Env} {o : Oper} {F : Fm} {H : List OB} {x y : Operand} {yt : TypeId} {a0 a1 : Int} (ho : o.op = .binOp .neq 107 x y yt) (hx : ev F x = some (.a [.c (.s (.int .i64 a0)), .c (.s (.int .i64 a1))])) (hy : ev F y = some (.a [.c (.s (.int .i64 a0)), .c (.s (.int .i64 a1))])) : Rd Tryz.prog N E o F H (.c (B false)) := by
 have := rd_neqa107 (N := N) (E := E) (F := F) (H := H) ho hx hy
 rwa [decide_eq_false (by simp)] at this
theorem eqpts_v (va vb : Value) (l : List Spot) (hl : l.length ≤ 1000000000) : ACalls Tryz.prog 64 [.c (.r va (sR l)), .c (.r vb (sR l))] [] fun u H => u = .c (B true) ∧ H = [] := by
 have e1 : (sR l).length = l.length := by simp
 refine acalls_of (N := 26) Tryz.func64 rfl rfl (by simp) fun E hE => ?_
 refine WA ?_
 refine WA ?_
 refine aw_cond_f rfl ?_
 refine ZZ ?_
 refine WA ?_
 refine aw_loopw (fun m F H => ∃ k : Nat, m + k = l.length ∧ F = [(0, .c (.r va (sR l))), (1, .c (.r vb (sR l))), (12, .c (I (sR l).length)), (13, .c (I k))] ∧ H = []) ?_ ?_
 ·refine wk_of [] (fun _ => [(0, .c (.r va (sR l))), (1, .c (.r vb (sR l))), (12, .c (I (sR l).length)), (13, .c (I (0 : Nat)))]) (fun _ => _) (by decide) (ZNL hE) ZCF (fun _ => .nil) (fun _ => ?_)
  exact ⟨l.length, 0, by omega, rfl, rfl⟩
 rintro m F H ⟨k, hk, rfl, rfl⟩
 refine WA ?_
 refine aw_if rfl (fun hlt => ?_) (fun hge => ?_)
 ·obtain ⟨⟨x, y⟩, hri⟩ : ∃ r, l[k]? = some r := ⟨_, List.getElem?_eq_getElem (by omega)⟩
  have hrow : (sR l)[k]? = some [I x, I y] := by rw [List.getElem?_map, hri]; rfl
  refine WA ?_
  refine ZZ ?_
  refine aw_regionT [(0, none), (1, none), (2, none), (3, none), (4, none), (5, none), (6, none), (7, none), (8, none)] hMixed (by kernel_rfl) ?_
  iterate 8 refine WX2 ?_
  refine ZT rfl (rd_nepq rfl rfl rfl) ?_
  refine WQ ?_
  refine aw_cond_f rfl ?_
  refine ZZ ?_
  refine WA ?_
  refine wk_of [] (fun _ => [(0, .c (.r va (sR l))), (1, .c (.r vb (sR l))), (12, .c (I (sR l).length)), (13, .c (I (k + 1 : Nat)))]) (fun _ => _) (by decide) (ZNL hE) ZCF (fun _ => .nil) (fun _ => ?_)
  exact ⟨m - 1, by omega, k + 1, by omega, rfl, rfl⟩
 refine ZZ ?_
 refine WA ?_
 exact aret_1 [] _ rfl rfl rfl (by decide) (ZNK rfl) (fun _ => .nil) ⟨rfl, rfl⟩
theorem samepath_v (a b : Pth) (h : a.2 = b.2) (hl : b.2.1.length ≤ 1000000000) : ACalls Tryz.prog 63 [.a ((pthR a).map .c), .a ((pthR b).map .c)] [] fun u H => u = .c (B true) ∧ H = [] := by
 obtain ⟨va, p, cl⟩ := a
 obtain ⟨vb, p', cl'⟩ := b
 simp only at h hl
 obtain ⟨rfl, rfl⟩ := Prod.mk.inj h
 cases cl <;> (
  refine acalls_of (N := 17) Tryz.func63 rfl rfl (by simp) fun E hE => ?_
  refine WA ?_
  refine WR ?_
  first | refine ZS ?_ | (refine G1 rfl ?_; refine al_ef rfl (ef_call0 false (fun _ => eqpts_v va vb p hl) rfl .fn rfl (by decide) (by kernel_rfl) rfl (fun _ => C0 rfl) (by simp)) ?_; rintro _ _ ⟨_, _, _, ⟨rfl, rfl⟩, hF, hH⟩; (refine NST hF hH ?_; clear hF hH; rintro rfl rfl)) | skip
  refine WE ?_
  exact aret_1 [] _ rfl rfl rfl (by decide) (ZNK rfl) (fun _ => .nil) ⟨rfl, rfl⟩)
set_option maxHeartbeats 1000000 in
theorem eqfpa_v (fn : FuncId) (hfn : okFn Tryz.prog fn = true) (va vb : Value) (la lb : List (Pth)) (hll : la.length = lb.length) (hl : la.length ≤ 1000000000) (hcall : ∀ (k : Nat) (a b : Pth), la[k]? = some a → lb[k]? = some b → ACalls Tryz.prog fn [.a ((pthR a).map .c), .a ((pthR b).map .c)] [] fun u H => u = .c (B true) ∧ H = []) : ACalls Tryz.prog 62 [.c (.r va (la.map pthR)), .c (.r vb (lb.map pthR)), .f (.func fn) []] [] fun u H => u = .c (B true) ∧ H = [] := by
 have e1 : (la.map pthR).length = la.length := by simp
 have e2 : (lb.map pthR).length = la.length := by simp [hll]
 have hne : ¬ ((la.map pthR).length : Int) ≠ ((lb.map pthR).length : Int) := by omega
 refine acalls_of (N := 32) Tryz.func62 rfl rfl (by simp) fun E hE => ?_
 refine WA ?_
 refine WA ?_
 refine aw_cond_f rfl ?_
 refine ZZ ?_
 refine WA ?_
 refine aw_loopw (fun m F H => ∃ k : Nat, m + k = la.length ∧ F = [(0, .c (.r va (la.map pthR))), (1, .c (.r vb (lb.map pthR))), (2, .f (.func fn) []), (15, .c (.r va (la.map pthR))), (16, .c (I (la.map pthR).length)), (17, .c (I k))] ∧ H = []) ?_ ?_
 ·refine wk_of [] (fun _ => [(0, .c (.r va (la.map pthR))), (1, .c (.r vb (lb.map pthR))), (2, .f (.func fn) []), (15, .c (.r va (la.map pthR))), (16, .c (I (la.map pthR).length)), (17, .c (I (0 : Nat)))]) (fun _ => _) (by decide) (ZNL hE) ZCF (fun _ => .nil) (fun _ => ?_)
  exact ⟨la.length, 0, by omega, rfl, rfl⟩
 rintro m F H ⟨k, hk, rfl, rfl⟩
 refine WA ?_
 refine aw_if rfl (fun hlt => ?_) (fun hge => ?_)
 ·obtain ⟨ea, hza⟩ : ∃ e, la[k]? = some e := ⟨_, List.getElem?_eq_getElem (by omega)⟩
  obtain ⟨eb, hzb⟩ : ∃ e, lb[k]? = some e := ⟨_, List.getElem?_eq_getElem (by omega)⟩
  have hrowa : (la.map pthR)[k]? = some (pthR ea) := by rw [List.getElem?_map, hza]; rfl
  have hrowb : (lb.map pthR)[k]? = some (pthR eb) := by rw [List.getElem?_map, hzb]; rfl
  refine WA ?_
  refine WA ?_
  refine WR ?_
  refine al_ef rfl (ef_call0 false (fun _ => hcall k _ _ hza hzb) rfl (.clo rfl) rfl (by decide) hfn rfl (fun _ => C0 rfl) (by simp)) ?_
  rintro _ _ ⟨_, _, _, ⟨rfl, rfl⟩, hF, hH⟩
  (refine NST hF hH ?_; clear hF hH; rintro rfl rfl)
  refine WE ?_
  refine aw_cond_f rfl ?_
  refine ZZ ?_
  refine WA ?_
  refine wk_of [] (fun _ => [(0, .c (.r va (la.map pthR))), (1, .c (.r vb (lb.map pthR))), (2, .f (.func fn) []), (15, .c (.r va (la.map pthR))), (16, .c (I (la.map pthR).length)), (17, .c (I (k + 1 : Nat)))]) (fun _ => _) (by decide) (ZNL hE) ZCF (fun _ => .nil) (fun _ => ?_)
  exact ⟨m - 1, by omega, k + 1, by omega, rfl, rfl⟩
 refine ZZ ?_
 refine WA ?_
 exact aret_1 [] _ rfl rfl rfl (by decide) (ZNK rfl) (fun _ => .nil) ⟨rfl, rfl⟩
theorem samepaths_v (va vb : Value) (la lb : List Pth) (h : la.map Prod.snd = lb.map Prod.snd) (hl : la.length ≤ 1000000000) (hr : ∀ p ∈ la, p.2.1.length ≤ 1000000000) : ACalls Tryz.prog 18 [.c (.r va (paR la)), .c (.r vb (paR lb))] [] fun u H => u = .c (B true) ∧ H = [] := by
 have hlen : la.length = lb.length := by have := congrArg List.length h; simpa using this
 have heq := eqfpa_v 63 (by kernel_rfl) va vb la lb hlen hl fun k a b ha hb => by
  have h1 : (la.map Prod.snd)[k]? = some a.2 := by rw [List.getElem?_map, ha]; rfl
  rw [h, List.getElem?_map, hb] at h1
  simp only [Option.map_some, Option.some.injEq] at h1
  exact samepath_v a b h1.symm (by rw [h1]; exact hr a (List.mem_of_getElem? ha))
 refine acalls_of (N := 8) Tryz.func18 rfl rfl (by simp) fun E hE => ?_
 refine WA ?_
 refine WR ?_
 refine al_ef rfl (ef_call0 false (fun _ => heq) rfl .fn rfl (by decide) (by kernel_rfl) rfl (fun _ => C0 rfl) (by simp)) ?_
 rintro _ _ ⟨_, _, _, ⟨rfl, rfl⟩, hF, hH⟩
 (refine NST hF hH ?_; clear hF hH; rintro rfl rfl)
 refine WE ?_
 exact aret_1 [] _ rfl rfl rfl (by decide) (ZNK rfl) (fun _ => .nil) ⟨rfl, rfl⟩
end Go.Proofs.YtfilfijammemfaaGreatDoor
