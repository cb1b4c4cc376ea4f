/- CheckCells, by value. -/
import Derived.Test.YtniolldgidgffaaGreatDoorQau
set_option linter.unusedSimpArgs false
set_option linter.unusedVariables false
/- What is wrong with cells, by value. -/
-- NEWM
namespace Go.Proofs.YtniolldgidgffaaGreatDoor
open Go Go.RowKit
set_option maxRecDepth 100000
def outB (n lo hi : Int) : Bool := decide (n < lo) || decide (hi < n)
theorem out_v (n lo hi : Int) : ACalls Tryz.prog 66 [.c (I n), .c (I lo), .c (I hi)] [] fun u H => u = .c (B (outB n lo hi)) ∧ H = [] := by
 refine acalls_of (N := 15) Tryz.func66 rfl rfl (by simp) fun E hE => ?_
 by_cases h1 : n < lo
 ·repeat' (first
   | (with_reducible refine aw_seq ?_) | (with_reducible refine aseq_n ?_) | (with_reducible refine aseq_r ?_) | (with_reducible refine ablk_n ?_) | (with_reducible refine ablk_r ?_) | (with_reducible refine ablk_e ?_) | (with_reducible refine ablk_o rfl ?_) | (with_reducible refine aseq_e ?_) | (with_reducible refine aw_skip ?_) | (with_reducible refine aw_block ?_) | (with_reducible refine aw_ret ?_) | (with_reducible refine aw_exit ?_)
   | refine aw_cond_t rfl ?_ | refine aw_cond_f rfl ?_ | refine aw_if_t rfl (by assumption) ?_ | refine aw_if_f rfl (by assumption) ?_ | refine aw_if rfl (fun _ => ?_) (fun _ => ?_) | refine aw_cond rfl (fun _ => ?_) (fun _ => ?_)
   | (refine aw_region ?_; refine WE ?_))
  exact aret_1 [] _ rfl rfl rfl (by decide) (ZNK rfl) (fun _ => .nil) ⟨congrArg (fun z => AV.c (B z)) (by simp [outB, h1]), rfl⟩
 ·by_cases h2 : hi < n
  ·repeat' (first
    | (with_reducible refine aw_seq ?_) | (with_reducible refine aseq_n ?_) | (with_reducible refine aseq_r ?_) | (with_reducible refine ablk_n ?_) | (with_reducible refine ablk_r ?_) | (with_reducible refine ablk_e ?_) | (with_reducible refine ablk_o rfl ?_) | (with_reducible refine aseq_e ?_) | (with_reducible refine aw_skip ?_) | (with_reducible refine aw_block ?_) | (with_reducible refine aw_ret ?_) | (with_reducible refine aw_exit ?_)
    | refine aw_cond_t rfl ?_ | refine aw_cond_f rfl ?_ | refine aw_if_t rfl (by assumption) ?_ | refine aw_if_f rfl (by assumption) ?_ | refine aw_if rfl (fun _ => ?_) (fun _ => ?_) | refine aw_cond rfl (fun _ => ?_) (fun _ => ?_)
    | (refine aw_region ?_; refine WE ?_))
   exact aret_1 [] _ rfl rfl rfl (by decide) (ZNK rfl) (fun _ => .nil) ⟨congrArg (fun z => AV.c (B z)) (by simp [outB, h2]), rfl⟩
  ·repeat' (first
    | (with_reducible refine aw_seq ?_) | (with_reducible refine aseq_n ?_) | (with_reducible refine aseq_r ?_) | (with_reducible refine ablk_n ?_) | (with_reducible refine ablk_r ?_) | (with_reducible refine ablk_e ?_) | (with_reducible refine ablk_o rfl ?_) | (with_reducible refine aseq_e ?_) | (with_reducible refine aw_skip ?_) | (with_reducible refine aw_block ?_) | (with_reducible refine aw_ret ?_) | (with_reducible refine aw_exit ?_)
    | refine aw_cond_t rfl ?_ | refine aw_cond_f rfl ?_ | refine aw_if_t rfl (by assumption) ?_ | refine aw_if_f rfl (by assumption) ?_ | refine aw_if rfl (fun _ => ?_) (fun _ => ?_) | refine aw_cond rfl (fun _ => ?_) (fun _ => ?_)
    | (refine aw_region ?_; refine WE ?_))
   exact aret_1 [] _ rfl rfl rfl (by decide) (ZNK rfl) (fun _ => .nil) ⟨congrArg (fun z => AV.c (B z)) (by simp [outB, h1, h2]), rfl⟩
theorem isl_v (l : List UInt8) : ACalls Tryz.prog 237 [.c (T l), .c (.s (.int .u8 35))] [] fun u H => u = .c (I (idxB 35 l 0)) ∧ H = [] := by
 refine acalls_of (N := 8) Tryz.func237 rfl rfl (by simp) fun E hE => ?_
 repeat' (first
  | (with_reducible refine aw_seq ?_) | (with_reducible refine aseq_n ?_) | (with_reducible refine aseq_r ?_) | (with_reducible refine ablk_n ?_) | (with_reducible refine ablk_r ?_) | (with_reducible refine ablk_e ?_) | (with_reducible refine ablk_o rfl ?_) | (with_reducible refine aseq_e ?_) | (with_reducible refine aw_skip ?_) | (with_reducible refine aw_block ?_) | (with_reducible refine aw_ret ?_) | (with_reducible refine aw_exit ?_)
  | refine aw_cond_t rfl ?_ | refine aw_cond_f rfl ?_ | refine aw_if_t rfl (by assumption) ?_ | refine aw_if_f rfl (by assumption) ?_ | refine aw_if rfl (fun _ => ?_) (fun _ => ?_) | refine aw_cond rfl (fun _ => ?_) (fun _ => ?_)
  | (refine aw_region (id := 1) ?_
     refine WO ?_
     refine ZA (rd_ext (us := [.string (bst l), .int .u8 35]) rfl rfl (fun _ _ => rfl) Tryz.func288 (by decide +kernel) rfl rfl rfl (fun w => run_indexByte_string _ _ w)) ?_
     refine WE ?_)
  | (refine aw_region ?_; refine WE ?_))
 exact aret_1 [] _ rfl rfl rfl (by decide) (ZNK rfl) (fun _ => .nil) ⟨congrArg (fun z => AV.c (I z)) (firstIdx_eq l _), rfl⟩
theorem sib_v (l : List UInt8) : ACalls Tryz.prog 190 [.c (T l), .c (.s (.int .u8 35))] [] fun u H => u = .c (I (idxB 35 l 0)) ∧ H = [] := by
 refine acalls_of (N := 8) Tryz.func190 rfl rfl (by simp) fun E hE => ?_
 repeat' (first
  | (with_reducible refine aw_seq ?_) | (with_reducible refine aseq_n ?_) | (with_reducible refine aseq_r ?_) | (with_reducible refine ablk_n ?_) | (with_reducible refine ablk_r ?_) | (with_reducible refine ablk_e ?_) | (with_reducible refine ablk_o rfl ?_) | (with_reducible refine aseq_e ?_) | (with_reducible refine aw_skip ?_) | (with_reducible refine aw_block ?_) | (with_reducible refine aw_ret ?_) | (with_reducible refine aw_exit ?_)
  | refine aw_cond_t rfl ?_ | refine aw_cond_f rfl ?_ | refine aw_if_t rfl (by assumption) ?_ | refine aw_if_f rfl (by assumption) ?_ | refine aw_if rfl (fun _ => ?_) (fun _ => ?_) | refine aw_cond rfl (fun _ => ?_) (fun _ => ?_)
  | (refine aw_region (id := 1) ?_
     refine WO ?_
     refine al_ef rfl (ef_call0 false (fun _ => isl_v l) rfl .fn rfl (by decide) (by kernel_rfl) rfl (fun _ => C0 rfl) (by simp)) ?_
     rintro _ _ ⟨_, _, _, ⟨rfl, rfl⟩, hF, hH⟩
     (refine NST hF hH ?_; clear hF hH; rintro rfl rfl)
     refine WE ?_)
  | (refine aw_region ?_; refine WE ?_))
 exact aret_1 [] _ rfl rfl rfl (by decide) (ZNK rfl) (fun _ => .nil) ⟨rfl, rfl⟩
theorem has_v (l : List UInt8) : ACalls Tryz.prog 189 [.c (T l)] [] fun u H => u = .c (B (l.contains 35)) ∧ H = [] := by
 refine acalls_of (N := 6) Tryz.func189 rfl rfl (by simp) fun E hE => ?_
 repeat' (first
  | (with_reducible refine aw_seq ?_) | (with_reducible refine aseq_n ?_) | (with_reducible refine aseq_r ?_) | (with_reducible refine ablk_n ?_) | (with_reducible refine ablk_r ?_) | (with_reducible refine ablk_e ?_) | (with_reducible refine ablk_o rfl ?_) | (with_reducible refine aseq_e ?_) | (with_reducible refine aw_skip ?_) | (with_reducible refine aw_block ?_) | (with_reducible refine aw_ret ?_) | (with_reducible refine aw_exit ?_)
  | refine aw_cond_t rfl ?_ | refine aw_cond_f rfl ?_ | refine aw_if_t rfl (by assumption) ?_ | refine aw_if_f rfl (by assumption) ?_ | refine aw_if rfl (fun _ => ?_) (fun _ => ?_) | refine aw_cond rfl (fun _ => ?_) (fun _ => ?_)
  | (refine aw_region (id := 1) ?_
     refine WO ?_
     refine al_ef rfl (ef_call0 false (fun _ => sib_v l) rfl .fn rfl (by decide) (by kernel_rfl) rfl (fun _ => C0 rfl) (by simp)) ?_
     rintro _ _ ⟨_, _, _, ⟨rfl, rfl⟩, hF, hH⟩
     (refine NST hF hH ?_; clear hF hH; rintro rfl rfl)
     refine WE ?_)
  | (refine aw_region ?_; refine WE ?_))
 refine aret_1 [] _ rfl rfl rfl (by decide) (ZNK rfl) (fun _ => .nil) ⟨congrArg (fun z => AV.c (B z)) ?_, rfl⟩
 have := idxB_neg (c := 35) (l := l) (i := 0)
 by_cases h : (35 : UInt8) ∈ l
 ·have := this.2 h; simp [h]; omega
 ·have : ¬ 0 ≤ idxB 35 l 0 := fun e => h (this.1 e)
  simp [h]; omega
theorem fst_v (l : List UInt8) (h : 0 < l.length) : ACalls Tryz.prog 192 [.c (T l)] [] fun u H => u = .c (B (l[0]? == some 35)) ∧ H = [] := by
 obtain ⟨b, hb⟩ : ∃ b, l[0]? = some b := ⟨_, List.getElem?_eq_getElem h⟩
 refine acalls_of (N := 6) Tryz.func192 rfl rfl (by simp) fun E hE => ?_
 repeat' (first
  | (with_reducible refine aw_seq ?_) | (with_reducible refine aseq_n ?_) | (with_reducible refine aseq_r ?_) | (with_reducible refine ablk_n ?_) | (with_reducible refine ablk_r ?_) | (with_reducible refine ablk_e ?_) | (with_reducible refine ablk_o rfl ?_) | (with_reducible refine aseq_e ?_) | (with_reducible refine aw_skip ?_) | (with_reducible refine aw_block ?_) | (with_reducible refine aw_ret ?_) | (with_reducible refine aw_exit ?_)
  | refine aw_cond_t rfl ?_ | refine aw_cond_f rfl ?_ | refine aw_if_t rfl (by assumption) ?_ | refine aw_if_f rfl (by assumption) ?_ | refine aw_if rfl (fun _ => ?_) (fun _ => ?_) | refine aw_cond rfl (fun _ => ?_) (fun _ => ?_)
  | (refine aw_region ?_; refine WE ?_))
 exact aret_1 [] _ rfl rfl rfl (by decide) (ZNK rfl) (fun _ => .nil) ⟨congrArg (fun z => AV.c (B z)) (by rw [hb, u8_35]; rfl), rfl⟩
theorem lst_v (l : List UInt8) (w : Nat) (h : 0 < w) (hw : w ≤ l.length) (hl : w ≤ 1000000000) : ACalls Tryz.prog 193 [.c (T l), .p 0 0 0] [.box [.c (I w)]] fun u H => u = .c (B (l[w - 1]? == some 35)) ∧ H = [.box [.c (I w)]] := by
 obtain ⟨b, hb⟩ : ∃ b, l[w - 1]? = some b := ⟨_, List.getElem?_eq_getElem (by omega)⟩
 refine acalls_of (N := 9) Tryz.func193 rfl rfl (by simp) fun E hE => ?_
 repeat' (first
  | (with_reducible refine aw_seq ?_) | (with_reducible refine aseq_n ?_) | (with_reducible refine aseq_r ?_) | (with_reducible refine ablk_n ?_) | (with_reducible refine ablk_r ?_) | (with_reducible refine ablk_e ?_) | (with_reducible refine ablk_o rfl ?_) | (with_reducible refine aseq_e ?_) | (with_reducible refine aw_skip ?_) | (with_reducible refine aw_block ?_) | (with_reducible refine aw_ret ?_) | (with_reducible refine aw_exit ?_)
  | refine aw_cond_t rfl ?_ | refine aw_cond_f rfl ?_ | refine aw_if_t rfl (by assumption) ?_ | refine aw_if_f rfl (by assumption) ?_ | refine aw_if rfl (fun _ => ?_) (fun _ => ?_) | refine aw_cond rfl (fun _ => ?_) (fun _ => ?_)
  | (refine aw_region (id := 1) ?_
     iterate 3 refine WX1 ?_
     refine ZA (rd_idxs (i := w - 1) rfl Tryz.underlying9 rfl rfl (by omega) hb) ?_
     refine WE ?_)
  | (refine aw_region ?_; refine WE ?_))
 exact aret_1 [some 0] _ rfl rfl rfl (by decide) (ZNK rfl) ZCH ⟨congrArg (fun z => AV.c (B z)) (by rw [hb, u8_35]; rfl), rfl⟩
theorem indexS_v  (fn : FuncId) (p : List UInt8 → Bool) (hfn : okFn Tryz.prog fn = true) (rows : List (List UInt8)) (v : Value) (hp : ∀ r ∈ rows, ACalls Tryz.prog fn [.c (T r)] [] fun u H => u = .c (B (p r)) ∧ H = []) (hl : rows.length ≤ 1000000000) :
    ACalls Tryz.prog 238 [.c (.r v (tR rows)), .f (.func fn) []] [] fun u H => ∃ r : Int, u = .c (I r) ∧ H = [] ∧ (0 ≤ r ↔ rows.any p = true) := by
 have e1 : (tR rows).length = rows.length := by simp
 refine acalls_of (N := 19) Tryz.func238 rfl rfl (by simp) fun E hE => ?_
 refine WA ?_
 refine WA ?_
 refine aw_loopw (fun m F H => ∃ (k : Nat), m + k = rows.length ∧ (rows.drop k).any p = rows.any p ∧ F = [(0, .c (.r v (tR rows))), (1, .f (.func fn) []), (7, .c (I (tR rows).length)), (8, .c (I k))] ∧ H = []) ?_ ?_
 ·refine wk_of [] (fun _ => [(0, .c (.r v (tR rows))), (1, .f (.func fn) []), (7, .c (I (tR rows).length)), (8, .c (I (0 : Nat)))]) (fun _ => _) (by decide) (ZNL hE) ZCF (fun _ => .nil) (fun _ => ?_)
  exact ⟨rows.length, 0, by omega, rfl, rfl, rfl⟩
 rintro m F H ⟨k, hk, hf, rfl, rfl⟩
 refine WA ?_
 refine aw_if rfl (fun hlt => ?_) (fun hge => ?_)
 ·obtain ⟨r, hr⟩ : ∃ e, rows[k]? = some e := ⟨_, List.getElem?_eq_getElem (by omega)⟩
  have hrow : (tR rows)[k]? = some [T r] := by rw [List.getElem?_map, hr]; rfl
  have hfd : (rows.drop k).any p = (p r || (rows.drop (k + 1)).any p) := by rw [List.drop_eq_getElem_cons (by omega), List.any_cons]; rw [List.getElem?_eq_getElem (by omega)] at hr; injection hr with hr; rw [hr]
  refine WA ?_
  refine WR ?_
  refine al_ef rfl (ef_call0 false (fun _ => hp r (List.mem_of_getElem? hr)) rfl (.clo rfl) rfl (by decide) hfn rfl (fun _ => C0 rfl) (by simp)) ?_
  rintro _ _ ⟨_, _, _, ⟨rfl, rfl⟩, hF, hH⟩
  (refine NST hF hH ?_; clear hF hH; rintro rfl rfl)
  refine WE ?_
  refine aw_cond rfl (fun hpz => ?_) (fun hpz => ?_)
  ·refine WA ?_
   refine aret_1 [] _ rfl rfl rfl (by decide) (ZNK rfl) (fun _ => .nil) ⟨_, rfl, rfl, ?_⟩
   rw [← hf, hfd, hpz]; simp
  ·refine ZZ ?_
   refine WA ?_
   refine wk_of [] (fun _ => [(0, .c (.r v (tR rows))), (1, .f (.func fn) []), (7, .c (I (tR rows).length)), (8, .c (I (k + 1 : Nat)))]) (fun _ => _) (by decide) (ZNL hE) ZCF (fun _ => .nil) (fun _ => ?_)
   exact ⟨m - 1, by omega, k + 1, by omega, by rw [← hf, hfd, hpz, Bool.false_or], rfl, rfl⟩
 refine WA ?_
 refine aret_1 [] _ rfl rfl rfl (by decide) (ZNK rfl) (fun _ => .nil) ⟨_, rfl, rfl, ?_⟩
 rw [← hf, List.drop_eq_nil_of_le (by omega)]; simp
theorem containsS_v  (fn : FuncId) (p : List UInt8 → Bool) (hfn : okFn Tryz.prog fn = true) (rows : List (List UInt8)) (v : Value) (hp : ∀ r ∈ rows, ACalls Tryz.prog fn [.c (T r)] [] fun u H => u = .c (B (p r)) ∧ H = []) (hl : rows.length ≤ 1000000000) :
    ACalls Tryz.prog 191 [.c (.r v (tR rows)), .f (.func fn) []] [] fun u H => u = .c (B (rows.any p)) ∧ H = [] := by
 refine acalls_of (N := 9) Tryz.func191 rfl rfl (by simp) fun E hE => ?_
 refine WA ?_
 refine WR ?_
 refine al_ef rfl (ef_call0 false (fun _ => indexS_v fn p hfn rows v hp hl) rfl .fn rfl (by decide) (by kernel_rfl) rfl (fun _ => C0 rfl) (by simp)) ?_
 rintro _ _ ⟨_, _, _, ⟨r, rfl, rfl, hr⟩, hF, hH⟩
 (refine NST hF hH ?_; clear hF hH; rintro rfl rfl)
 refine WE ?_
 refine aret_1 [] _ rfl rfl rfl (by decide) (ZNK rfl) (fun _ => .nil) ⟨congrArg (fun z => AV.c (B z)) ?_, rfl⟩
 cases h : rows.any p
 ·rw [h] at hr; simp at hr ⊢; omega
 ·rw [h] at hr; simp at hr ⊢; omega
theorem indexSp_v (w : Nat) (fn : FuncId) (p : List UInt8 → Bool) (hfn : okFn Tryz.prog fn = true) (rows : List (List UInt8)) (v : Value) (hp : ∀ r ∈ rows, ACalls Tryz.prog fn [.c (T r), .p 0 0 0] [.box [.c (I w)]] fun u H => u = .c (B (p r)) ∧ H = [.box [.c (I w)]]) (hl : rows.length ≤ 1000000000) :
    ACalls Tryz.prog 238 [.c (.r v (tR rows)), .f (.func fn) [.p 0 0 0]] [.box [.c (I w)]] fun u H => ∃ r : Int, u = .c (I r) ∧ H = [.box [.c (I w)]] ∧ (0 ≤ r ↔ rows.any p = true) := by
 have e1 : (tR rows).length = rows.length := by simp
 refine acalls_of (N := 19) Tryz.func238 rfl rfl (by simp) fun E hE => ?_
 refine WA ?_
 refine WA ?_
 refine aw_loopw (fun m F H => ∃ (k : Nat), m + k = rows.length ∧ (rows.drop k).any p = rows.any p ∧ F = [(0, .c (.r v (tR rows))), (1, .f (.func fn) [.p 0 0 0]), (7, .c (I (tR rows).length)), (8, .c (I k))] ∧ H = [.box [.c (I w)]]) ?_ ?_
 ·refine wk_of [some 0] (fun _ => [(0, .c (.r v (tR rows))), (1, .f (.func fn) [.p 0 0 0]), (7, .c (I (tR rows).length)), (8, .c (I (0 : Nat)))]) (fun _ => _) (by decide) (ZNL hE) ZCF ZCH (fun _ => ?_)
  exact ⟨rows.length, 0, by omega, rfl, rfl, rfl⟩
 rintro m F H ⟨k, hk, hf, rfl, rfl⟩
 refine WA ?_
 refine aw_if rfl (fun hlt => ?_) (fun hge => ?_)
 ·obtain ⟨r, hr⟩ : ∃ e, rows[k]? = some e := ⟨_, List.getElem?_eq_getElem (by omega)⟩
  have hrow : (tR rows)[k]? = some [T r] := by rw [List.getElem?_map, hr]; rfl
  have hfd : (rows.drop k).any p = (p r || (rows.drop (k + 1)).any p) := by rw [List.drop_eq_getElem_cons (by omega), List.any_cons]; rw [List.getElem?_eq_getElem (by omega)] at hr; injection hr with hr; rw [hr]
  refine WA ?_
  refine WR ?_
  refine al_ef rfl (ef_call [0] (fun _ => [.box [.c (I w)]]) false (fun _ => hp r (List.mem_of_getElem? hr)) rfl (.clo rfl) rfl (by decide) hfn rfl ZCH (by decide) ZCH (by simp)) ?_
  rintro F1 H1 ⟨_, _, _, _, ⟨rfl, rfl⟩, hF, hH⟩
  (refine NSU hF hH ?_; clear hF hH; rintro rfl rfl)
  refine WE ?_
  refine aw_cond rfl (fun hpz => ?_) (fun hpz => ?_)
  ·refine WA ?_
   refine aret_1 [some 0] _ rfl rfl rfl (by decide) (ZNK rfl) ZCH ⟨_, rfl, rfl, ?_⟩
   rw [← hf, hfd, hpz]; simp
  ·refine ZZ ?_
   refine WA ?_
   refine wk_of [some 0] (fun _ => [(0, .c (.r v (tR rows))), (1, .f (.func fn) [.p 0 0 0]), (7, .c (I (tR rows).length)), (8, .c (I (k + 1 : Nat)))]) (fun _ => _) (by decide) (ZNL hE) ZCF ZCH (fun _ => ?_)
   exact ⟨m - 1, by omega, k + 1, by omega, by rw [← hf, hfd, hpz, Bool.false_or], rfl, rfl⟩
 refine WA ?_
 refine aret_1 [some 0] _ rfl rfl rfl (by decide) (ZNK rfl) ZCH ⟨_, rfl, rfl, ?_⟩
 rw [← hf, List.drop_eq_nil_of_le (by omega)]; simp
theorem containsSp_v (w : Nat) (fn : FuncId) (p : List UInt8 → Bool) (hfn : okFn Tryz.prog fn = true) (rows : List (List UInt8)) (v : Value) (hp : ∀ r ∈ rows, ACalls Tryz.prog fn [.c (T r), .p 0 0 0] [.box [.c (I w)]] fun u H => u = .c (B (p r)) ∧ H = [.box [.c (I w)]]) (hl : rows.length ≤ 1000000000) :
    ACalls Tryz.prog 191 [.c (.r v (tR rows)), .f (.func fn) [.p 0 0 0]] [.box [.c (I w)]] fun u H => u = .c (B (rows.any p)) ∧ H = [.box [.c (I w)]] := by
 refine acalls_of (N := 9) Tryz.func191 rfl rfl (by simp) fun E hE => ?_
 refine WA ?_
 refine WR ?_
 refine al_ef rfl (ef_call [0] (fun _ => [.box [.c (I w)]]) false (fun _ => indexSp_v w fn p hfn rows v hp hl) rfl .fn rfl (by decide) (by kernel_rfl) rfl ZCH (by decide) ZCH (by simp)) ?_
 rintro F1 H1 ⟨_, _, _, _, ⟨r, rfl, rfl, hr⟩, hF, hH⟩
 (refine NSU hF hH ?_; clear hF hH; rintro rfl rfl)
 refine WE ?_
 refine aret_1 [some 0] _ rfl rfl rfl (by decide) (ZNK rfl) ZCH ⟨congrArg (fun z => AV.c (B z)) ?_, rfl⟩
 cases h : rows.any p
 ·rw [h] at hr; simp at hr ⊢; omega
 ·rw [h] at hr; simp at hr ⊢; omega
end Go.Proofs.YtniolldgidgffaaGreatDoor

/- CheckCells, by value. -/
-- NEWM
namespace Go.Proofs.YtniolldgidgffaaGreatDoor
open Go Go.RowKit
set_option maxRecDepth 100000
theorem istight_v (v : Value) (rows : List (List UInt8)) (h0 : rows ≠ []) (hw : ∀ r ∈ rows, r.length = wid rows) (hl : rows.length ≤ 1000000000) (hwl : wid rows ≤ 1000000000) : ACalls Tryz.prog 141 [.c (.r v (tR rows))] [] fun u H => u = .c (B (tightB rows)) ∧ H = [] := by
 have e1 : (tR rows).length = rows.length := by simp
 have hpos : 0 < rows.length := by cases rows with | nil => exact absurd rfl h0 | cons => simp
 obtain ⟨r0, hr0⟩ : ∃ r0, rows[0]? = some r0 := ⟨_, List.getElem?_eq_getElem hpos⟩
 obtain ⟨rl, hrl⟩ : ∃ rl, rows[rows.length - 1]? = some rl := ⟨_, List.getElem?_eq_getElem (by omega)⟩
 have hh : rows.headD [] = r0 := by cases rows with | nil => cases hr0 | cons a l => injection hr0
 have hg : rows.getLastD [] = rl := by rw [List.getLastD_eq_getLast?, List.getLast?_eq_getElem?, hrl]; rfl
 have hwr : wid rows = r0.length := by unfold wid; rw [hh]
 rw [hwr] at hw hwl
 have hrow0 : (tR rows)[0]? = some [T r0] := by rw [List.getElem?_map, hr0]; rfl
 have hrowl : (tR rows)[rows.length - 1]? = some [T rl] := by rw [List.getElem?_map, hrl]; rfl
 unfold tightB
 rw [hh, hg, hwr]
 refine acalls_of (N := 35) Tryz.func141 rfl rfl (by simp) fun E hE => ?_
 refine WA ?_
 refine WA ?_
 refine WA ?_
 obtain ⟨b1, hb1⟩ : ∃ b, r0.contains 35 = b := ⟨_, rfl⟩
 cases b1 with
 | false =>
  refine WR ?_
  refine al_ef rfl (ef_call0 false (fun _ => has_v r0) rfl (.clo rfl) rfl (by decide) (by kernel_rfl) rfl (fun _ => C0 rfl) (by simp)) ?_
  rintro _ _ ⟨_, _, _, ⟨rfl, rfl⟩, hF, hH⟩
  rw [hb1] at hF
  (refine NST hF hH ?_; clear hF hH; rintro rfl rfl)
  iterate 7 refine WX1 ?_
  first | refine ZP (YJo (i := rows.length - 1) (hz := by omega)) ?_ | refine ZS ?_
  refine WO ?_
  first | refine ZS ?_ | (refine G1 rfl ?_; refine al_ef rfl (ef_call0 false (fun _ => has_v rl) rfl (.clo rfl) rfl (by decide) (by kernel_rfl) rfl (fun _ => C0 rfl) (by simp)) ?_; rintro _ _ ⟨_, _, _, ⟨rfl, rfl⟩, hF, hH⟩; rw [hb2] at hF; (refine NST hF hH ?_; clear hF hH; rintro rfl rfl)) | skip
  refine WE ?_
  refine aw_cond_t rfl ?_
  refine WA ?_
  exact aret_1 [] _ rfl rfl rfl (by decide) (ZNK rfl) (fun _ => .nil) ⟨congrArg (fun z => AV.c (B z)) (by rw [hb1]; rfl), rfl⟩
 | true =>
  have hr1 : 0 < r0.length := by
   cases r0 with
   | nil => cases hb1
   | cons => simp
  have hp2 : ∀ r ∈ rows, ACalls Tryz.prog 192 [.c (T r)] [] fun u H => u = .c (B (r[0]? == some 35)) ∧ H = [] := fun r hr => fst_v r (by rw [hw r hr]; exact hr1)
  have hp3 : ∀ r ∈ rows, ACalls Tryz.prog 193 [.c (T r), .p 0 0 0] [.box [.c (I r0.length)]] fun u H => u = .c (B (r[r0.length - 1]? == some 35)) ∧ H = [.box [.c (I r0.length)]] := fun r hr => lst_v r r0.length hr1 (by rw [hw r hr]; exact Nat.le_refl _) hwl
  obtain ⟨b2, hb2⟩ : ∃ b, rl.contains 35 = b := ⟨_, rfl⟩
  cases b2 with
  | false =>
   refine WR ?_
   refine al_ef rfl (ef_call0 false (fun _ => has_v r0) rfl (.clo rfl) rfl (by decide) (by kernel_rfl) rfl (fun _ => C0 rfl) (by simp)) ?_
   rintro _ _ ⟨_, _, _, ⟨rfl, rfl⟩, hF, hH⟩
   rw [hb1] at hF
   (refine NST hF hH ?_; clear hF hH; rintro rfl rfl)
   iterate 7 refine WX1 ?_
   first | refine ZP (YJo (i := rows.length - 1) (hz := by omega)) ?_ | refine ZS ?_
   refine WO ?_
   first | refine ZS ?_ | (refine G1 rfl ?_; refine al_ef rfl (ef_call0 false (fun _ => has_v rl) rfl (.clo rfl) rfl (by decide) (by kernel_rfl) rfl (fun _ => C0 rfl) (by simp)) ?_; rintro _ _ ⟨_, _, _, ⟨rfl, rfl⟩, hF, hH⟩; rw [hb2] at hF; (refine NST hF hH ?_; clear hF hH; rintro rfl rfl)) | skip
   refine WE ?_
   refine aw_cond_t rfl ?_
   refine WA ?_
   exact aret_1 [] _ rfl rfl rfl (by decide) (ZNK rfl) (fun _ => .nil) ⟨congrArg (fun z => AV.c (B z)) (by rw [hb1, hb2]; rfl), rfl⟩
  | true =>
   refine WR ?_
   refine al_ef rfl (ef_call0 false (fun _ => has_v r0) rfl (.clo rfl) rfl (by decide) (by kernel_rfl) rfl (fun _ => C0 rfl) (by simp)) ?_
   rintro _ _ ⟨_, _, _, ⟨rfl, rfl⟩, hF, hH⟩
   rw [hb1] at hF
   (refine NST hF hH ?_; clear hF hH; rintro rfl rfl)
   iterate 7 refine WX1 ?_
   first | refine ZP (YJo (i := rows.length - 1) (hz := by omega)) ?_ | refine ZS ?_
   refine WO ?_
   first | refine ZS ?_ | (refine G1 rfl ?_; refine al_ef rfl (ef_call0 false (fun _ => has_v rl) rfl (.clo rfl) rfl (by decide) (by kernel_rfl) rfl (fun _ => C0 rfl) (by simp)) ?_; rintro _ _ ⟨_, _, _, ⟨rfl, rfl⟩, hF, hH⟩; rw [hb2] at hF; (refine NST hF hH ?_; clear hF hH; rintro rfl rfl)) | skip
   refine WE ?_
   refine aw_cond_f rfl ?_
   refine ZZ ?_
   obtain ⟨b3, hb3⟩ : ∃ b, (rows.any fun r => r[0]? == some 35) = b := ⟨_, rfl⟩
   refine WR ?_
   refine al_ef rfl (ef_call0 false (fun _ => containsS_v 192 (fun r => r[0]? == some 35) (by kernel_rfl) rows v hp2 (by omega)) rfl .fn rfl (by decide) (by kernel_rfl) rfl (fun _ => C0 rfl) (by simp)) ?_
   rintro _ _ ⟨_, _, _, ⟨rfl, rfl⟩, hF, hH⟩
   rw [hb3] at hF
   (refine NST hF hH ?_; clear hF hH; rintro rfl rfl)
   refine WE ?_
   cases b3 with
   | false =>
    refine WR ?_
    first | refine ZS ?_ | (refine G1 rfl ?_; refine al_ef rfl (ef_call [0] (fun _ => [.box [.c (I r0.length)]]) false (fun _ => containsSp_v r0.length 193 (fun r => r[r0.length - 1]? == some 35) (by kernel_rfl) rows v hp3 (by omega)) rfl .fn rfl (by decide) (by kernel_rfl) rfl ZCH (by decide) ZCH (by simp)) ?_; rintro F1 H1 ⟨_, _, _, _, ⟨rfl, rfl⟩, hF, hH⟩; (refine NSU hF hH ?_; clear hF hH; rintro rfl rfl)) | skip
    refine WE ?_
    exact aret_1 [] _ rfl rfl rfl (by decide) (ZNK rfl) (fun _ => .nil) ⟨congrArg (fun z => AV.c (B z)) (by rw [hb1, hb2, hb3]; rfl), rfl⟩
   | true =>
    refine WR ?_
    first | refine ZS ?_ | (refine G1 rfl ?_; refine al_ef rfl (ef_call [0] (fun _ => [.box [.c (I r0.length)]]) false (fun _ => containsSp_v r0.length 193 (fun r => r[r0.length - 1]? == some 35) (by kernel_rfl) rows v hp3 (by omega)) rfl .fn rfl (by decide) (by kernel_rfl) rfl ZCH (by decide) ZCH (by simp)) ?_; rintro F1 H1 ⟨_, _, _, _, ⟨rfl, rfl⟩, hF, hH⟩; (refine NSU hF hH ?_; clear hF hH; rintro rfl rfl)) | skip
    refine WE ?_
    exact aret_1 [] _ rfl rfl rfl (by decide) (ZNK rfl) (fun _ => .nil) ⟨congrArg (fun z => AV.c (B z)) (by rw [hb1, hb2, hb3]; rfl), rfl⟩
theorem stepB_out (st : Int) : stepB st = (outB st 2 10000 || decide (st.tmod 2 ≠ 0)) := rfl
theorem rowsF_drop {w : Nat} {rows : List (List UInt8)} {k : Nat} {r : List UInt8} (h : rows[k]? = some r) : rowsF w (rows.drop k) = if r.length ≠ w then 3 else if okB2 r = false then 9 else rowsF w (rows.drop (k + 1)) := by
 obtain ⟨hk, rfl⟩ := List.getElem?_eq_some_iff.1 h
 rw [List.drop_eq_getElem_cons hk]; rfl
theorem okB2_drop {r : List UInt8} {k : Nat} {b : UInt8} (h : r[k]? = some b) : okB2 (r.drop k) = ((b == 35 || b == 46) && okB2 (r.drop (k + 1))) := by
 obtain ⟨hk, rfl⟩ := List.getElem?_eq_some_iff.1 h
 rw [List.drop_eq_getElem_cons hk]; rfl
theorem u8_46 (b : UInt8) : decide ((b.toNat : Int) = 46) = (b == 46) := u8_eq b 46
end Go.Proofs.YtniolldgidgffaaGreatDoor
