/- Whether paths lead through a point, by value: the reference's led. -/
import Derived.Test.YtniolldgidgffaaGreatDoorQbi
set_option linter.unusedSimpArgs false
set_option linter.unusedVariables false
/- Whether paths lead through a point, by value: the reference's on and led. -/
-- NEWM
-- NILC
namespace Go.Proofs.YtniolldgidgffaaGreatDoor
open Go Go.RowKit
set_option maxRecDepth 100000
def inQ (n lo hi : Int) : Bool := decide (lo ≤ n) && decide (n ≤ hi)
theorem qin_v (n lo hi : Int) : ACalls Tryz.prog 77 [.c (I n), .c (I lo), .c (I hi)] [] fun u H => u = .c (B (inQ n lo hi)) ∧ H = [] := by
 refine acalls_of (N := 15) Tryz.func77 rfl rfl (by simp) fun E hE => ?_
 by_cases h1 : lo ≤ n
 ·by_cases h2 : n ≤ hi
  ·repeat' (first
    | (with_reducible refine aw_seq ?_) | (with_reducible refine aseq_n ?_) | (with_reducible refine aseq_r ?_) | (with_reducible refine ablk_n ?_) | (with_reducible refine ablk_r ?_) | (with_reducible refine ablk_e ?_) | (with_reducible refine ablk_o rfl ?_) | (with_reducible refine aseq_e ?_) | (with_reducible refine aw_skip ?_) | (with_reducible refine aw_block ?_) | (with_reducible refine aw_ret ?_) | (with_reducible refine aw_exit ?_)
    | refine aw_cond_t rfl ?_ | refine aw_cond_f rfl ?_ | refine aw_if_t rfl (by assumption) ?_ | refine aw_if_f rfl (by assumption) ?_ | refine aw_if rfl (fun _ => ?_) (fun _ => ?_) | refine aw_cond rfl (fun _ => ?_) (fun _ => ?_)
    | (refine aw_region ?_; refine WE ?_))
   exact aret_1 [] _ rfl rfl rfl (by decide) (ZNK rfl) (fun _ => .nil) ⟨congrArg (fun z => AV.c (B z)) (by simp [inQ, h1, h2]), rfl⟩
  ·repeat' (first
    | (with_reducible refine aw_seq ?_) | (with_reducible refine aseq_n ?_) | (with_reducible refine aseq_r ?_) | (with_reducible refine ablk_n ?_) | (with_reducible refine ablk_r ?_) | (with_reducible refine ablk_e ?_) | (with_reducible refine ablk_o rfl ?_) | (with_reducible refine aseq_e ?_) | (with_reducible refine aw_skip ?_) | (with_reducible refine aw_block ?_) | (with_reducible refine aw_ret ?_) | (with_reducible refine aw_exit ?_)
    | refine aw_cond_t rfl ?_ | refine aw_cond_f rfl ?_ | refine aw_if_t rfl (by assumption) ?_ | refine aw_if_f rfl (by assumption) ?_ | refine aw_if rfl (fun _ => ?_) (fun _ => ?_) | refine aw_cond rfl (fun _ => ?_) (fun _ => ?_)
    | (refine aw_region ?_; refine WE ?_))
   exact aret_1 [] _ rfl rfl rfl (by decide) (ZNK rfl) (fun _ => .nil) ⟨congrArg (fun z => AV.c (B z)) (by simp [inQ, h1, h2]), rfl⟩
 ·repeat' (first
   | (with_reducible refine aw_seq ?_) | (with_reducible refine aseq_n ?_) | (with_reducible refine aseq_r ?_) | (with_reducible refine ablk_n ?_) | (with_reducible refine ablk_r ?_) | (with_reducible refine ablk_e ?_) | (with_reducible refine ablk_o rfl ?_) | (with_reducible refine aseq_e ?_) | (with_reducible refine aw_skip ?_) | (with_reducible refine aw_block ?_) | (with_reducible refine aw_ret ?_) | (with_reducible refine aw_exit ?_)
   | refine aw_cond_t rfl ?_ | refine aw_cond_f rfl ?_ | refine aw_if_t rfl (by assumption) ?_ | refine aw_if_f rfl (by assumption) ?_ | refine aw_if rfl (fun _ => ?_) (fun _ => ?_) | refine aw_cond rfl (fun _ => ?_) (fun _ => ?_)
   | (refine aw_region ?_; refine WE ?_))
  exact aret_1 [] _ rfl rfl rfl (by decide) (ZNK rfl) (fun _ => .nil) ⟨congrArg (fun z => AV.c (B z)) (by simp [inQ, h1]), rfl⟩
set_option maxHeartbeats 2000000 in
theorem on_v (p a b : Spot) (hp : (-100000000 ≤ p.1 ∧ p.1 ≤ 100000000) ∧ (-100000000 ≤ p.2 ∧ p.2 ≤ 100000000)) (ha : (-100000 ≤ a.1 ∧ a.1 ≤ 100000) ∧ (-100000 ≤ a.2 ∧ a.2 ≤ 100000)) (hb : (-100000 ≤ b.1 ∧ b.1 ≤ 100000) ∧ (-100000 ≤ b.2 ∧ b.2 ≤ 100000)) : ACalls Tryz.prog 165 [.a [.c (I p.1), .c (I p.2)], .a [.c (I a.1), .c (I a.2)], .a [.c (I b.1), .c (I b.2)]] [] fun u H => u = .c (B (decide (onS a b p))) ∧ H = [] := by
 have hm : ∀ x y : Int, -200000 ≤ x ∧ x ≤ 200000 → -200000000 ≤ y ∧ y ≤ 200000000 → -40000000000000 ≤ x * y ∧ x * y ≤ 40000000000000 := fun x y hx hy => by
  have h : (x * y).natAbs ≤ 200000 * 200000000 := by rw [Int.natAbs_mul]; exact Nat.mul_le_mul (by omega) (by omega)
  omega
 have hm1 := hm (b.1 - a.1) (p.2 - a.2) (by omega) (by omega)
 have hm2 := hm (b.2 - a.2) (p.1 - a.1) (by omega) (by omega)
 obtain ⟨q1, e1⟩ : ∃ q, inQ p.1 (min a.1 b.1) (max a.1 b.1) = q := ⟨_, rfl⟩
 obtain ⟨q2, e2⟩ : ∃ q, inQ p.2 (min a.2 b.2) (max a.2 b.2) = q := ⟨_, rfl⟩
 have hv : decide (onS a b p) = (decide ((b.1 - a.1) * (p.2 - a.2) = (b.2 - a.2) * (p.1 - a.1)) && q1 && q2) := by
  rw [← e1, ← e2, Bool.eq_iff_iff]
  unfold onS inQ
  simp only [Bool.and_eq_true, decide_eq_true_iff, and_assoc]
 rw [hv]
 clear hv hm
 refine acalls_of (N := 60) Tryz.func165 rfl rfl (by simp) fun E hE => ?_
 refine WA ?_
 by_cases h1 : (b.1 - a.1) * (p.2 - a.2) = (b.2 - a.2) * (p.1 - a.1)
 ·rw [decide_eq_true h1, Bool.true_and]
  cases q1 with
  | true =>
   refine WR ?_
   first | refine ZS ?_ | (refine G1 rfl ?_; refine al_ef rfl (ef_call0 false (fun _ => qin_v _ _ _) rfl .fn rfl (by decide) (by kernel_rfl) rfl (fun _ => C0 rfl) (by simp)) ?_; rintro _ _ ⟨_, _, _, ⟨rfl, rfl⟩, hF, hH⟩; rw [e1] at hF; (refine NST hF hH ?_; clear hF hH; rintro rfl rfl)) | skip
   refine WO ?_
   first | refine ZS ?_ | (refine G1 rfl ?_; refine al_ef rfl (ef_call0 false (fun _ => qin_v _ _ _) rfl .fn rfl (by decide) (by kernel_rfl) rfl (fun _ => C0 rfl) (by simp)) ?_; rintro _ _ ⟨_, _, _, ⟨rfl, rfl⟩, hF, hH⟩; rw [e2] at hF; (refine NST hF hH ?_; clear hF hH; rintro rfl rfl)) | skip
   refine WE ?_
   exact aret_1 [] _ rfl rfl rfl (by decide) (ZNK rfl) (fun _ => .nil) ⟨by rw [Bool.true_and], rfl⟩
  | false =>
   refine WR ?_
   first | refine ZS ?_ | (refine G1 rfl ?_; refine al_ef rfl (ef_call0 false (fun _ => qin_v _ _ _) rfl .fn rfl (by decide) (by kernel_rfl) rfl (fun _ => C0 rfl) (by simp)) ?_; rintro _ _ ⟨_, _, _, ⟨rfl, rfl⟩, hF, hH⟩; rw [e1] at hF; (refine NST hF hH ?_; clear hF hH; rintro rfl rfl)) | skip
   refine WO ?_
   first | refine ZS ?_ | (refine G1 rfl ?_; refine al_ef rfl (ef_call0 false (fun _ => qin_v _ _ _) rfl .fn rfl (by decide) (by kernel_rfl) rfl (fun _ => C0 rfl) (by simp)) ?_; rintro _ _ ⟨_, _, _, ⟨rfl, rfl⟩, hF, hH⟩; rw [e2] at hF; (refine NST hF hH ?_; clear hF hH; rintro rfl rfl)) | skip
   refine WE ?_
   exact aret_1 [] _ rfl rfl rfl (by decide) (ZNK rfl) (fun _ => .nil) ⟨by rw [Bool.false_and], rfl⟩
 ·rw [decide_eq_false h1, Bool.false_and, Bool.false_and]
  refine WR ?_
  first | refine ZS ?_ | (refine G1 rfl ?_; refine al_ef rfl (ef_call0 false (fun _ => qin_v _ _ _) rfl .fn rfl (by decide) (by kernel_rfl) rfl (fun _ => C0 rfl) (by simp)) ?_; rintro _ _ ⟨_, _, _, ⟨rfl, rfl⟩, hF, hH⟩; rw [e1] at hF; (refine NST hF hH ?_; clear hF hH; rintro rfl rfl)) | skip
  refine WO ?_
  first | refine ZS ?_ | (refine G1 rfl ?_; refine al_ef rfl (ef_call0 false (fun _ => qin_v _ _ _) rfl .fn rfl (by decide) (by kernel_rfl) rfl (fun _ => C0 rfl) (by simp)) ?_; rintro _ _ ⟨_, _, _, ⟨rfl, rfl⟩, hF, hH⟩; rw [e2] at hF; (refine NST hF hH ?_; clear hF hH; rintro rfl rfl)) | skip
  refine WE ?_
  exact aret_1 [] _ rfl rfl rfl (by decide) (ZNK rfl) (fun _ => .nil) ⟨rfl, rfl⟩
def segQ (pts : List Spot) (cl : Bool) (i : Nat) : Spot × Spot := (pts.getD i (0, 0), if i + 1 = pts.length then (if cl = true then pts.getD 0 (0, 0) else pts.getD i (0, 0)) else pts.getD (i + 1) (0, 0))
def ledK (pts : List Spot) (cl : Bool) (p : Spot) (k : Nat) : Bool := (List.range k).any fun i => decide (onS (segQ pts cl i).1 (segQ pts cl i).2 p)
theorem ledK_snoc {pts : List Spot} {cl : Bool} {p : Spot} {k : Nat} : ledK pts cl p (k + 1) = (ledK pts cl p k || decide (onS (segQ pts cl k).1 (segQ pts cl k).2 p)) := by
 unfold ledK
 rw [List.range_succ, List.any_append]
 simp
theorem ledK_more {pts : List Spot} {cl : Bool} {p : Spot} {k n : Nat} (h : ledK pts cl p k = true) (hk : k ≤ n) : ledK pts cl p n = true := by
 unfold ledK at *
 rw [List.any_eq_true] at *
 obtain ⟨i, hi, h⟩ := h
 exact ⟨i, by rw [List.mem_range] at *; omega, h⟩
set_option maxHeartbeats 2000000 in
theorem led1_v (pw : Value) (pp : List Spot) (pc : Bool) (px py : Int) (hl : pp.length ≤ 1000) (hp : (-100000000 ≤ px ∧ px ≤ 100000000) ∧ (-100000000 ≤ py ∧ py ≤ 100000000)) (hb : ∀ q ∈ pp, (-100000 ≤ q.1 ∧ q.1 ≤ 100000) ∧ (-100000 ≤ q.2 ∧ q.2 ≤ 100000)) : ACalls Tryz.prog 164 [.a [.c (.r pw (ptR pp)), .c (B pc)], .p 0 0 0] [.box [.c (I px), .c (I py)]] fun u H => u = .c (B (ledK pp pc (px, py) pp.length)) ∧ H = [.box [.c (I px), .c (I py)]] := by
 have e1 : (ptR pp).length = pp.length := by simp
 refine acalls_of (N := 35) Tryz.func164 rfl rfl (by simp) fun E hE => ?_
 refine WA ?_
 refine WA ?_
 refine aw_loopw (fun m F H => ∃ k : Nat, m + k = pp.length ∧ ledK pp pc (px, py) k = false ∧ F = [(1, .p 0 0 0), (2, .p 1 0 0), (8, .c (.r pw (ptR pp))), (9, .c (I (ptR pp).length)), (10, .c (I k))] ∧ H = [.box [.c (I px), .c (I py)], .box [.c (.r pw (ptR pp)), .c (B pc)]]) ?_ ?_
 ·refine wk_of [some 0, some 1] (fun _ => [(1, .p 0 0 0), (2, .p 1 0 0), (8, .c (.r pw (ptR pp))), (9, .c (I (ptR pp).length)), (10, .c (I (0 : Nat)))]) (fun _ => [.box [.c (I px), .c (I py)], .box [.c (.r pw (ptR pp)), .c (B pc)]]) (by decide) (ZNL hE) ZCF ZCH (fun _ => ?_)
  exact ⟨pp.length, 0, by omega, rfl, rfl, rfl⟩
 rintro m F H ⟨k, hk, hno, rfl, rfl⟩
 refine WA ?_
 refine aw_if rfl (fun hlt => ?_) (fun hge => ?_)
 ·obtain ⟨⟨ix, iy⟩, hzi⟩ : ∃ e, pp[k]? = some e := ⟨_, List.getElem?_eq_getElem (by omega)⟩
  have hrowi : (ptR pp)[k]? = some [I ix, I iy] := by rw [List.getElem?_map, hzi]; rfl
  have hbi := hb _ (List.mem_of_getElem? hzi)
  have hgi : pp.getD k (0, 0) = (ix, iy) := by rw [List.getD_eq_getElem?_getD, hzi]; rfl
  obtain ⟨j, hj, hsg⟩ : ∃ j, j < pp.length ∧ segQ pp pc k = ((ix, iy), pp.getD j (0, 0)) ∧ j = if k + 1 = pp.length then (if pc = true then 0 else k) else k + 1 := by
   unfold segQ
   rw [hgi]
   by_cases h1 : k + 1 = pp.length
   ·cases pc with
    | true => exact ⟨0, by omega, by rw [if_pos h1, if_pos rfl], by rw [if_pos h1, if_pos rfl]⟩
    | false => exact ⟨k, by omega, by rw [if_pos h1, if_neg (by simp), hgi], by rw [if_pos h1, if_neg (by simp)]⟩
   ·exact ⟨k + 1, by omega, by rw [if_neg h1], by rw [if_neg h1]⟩
  obtain ⟨hsg, hje⟩ := hsg
  obtain ⟨⟨jx, jy⟩, hzj⟩ : ∃ e, pp[j]? = some e := ⟨_, List.getElem?_eq_getElem hj⟩
  have hrowj : (ptR pp)[j]? = some [I jx, I jy] := by rw [List.getElem?_map, hzj]; rfl
  have hbj := hb _ (List.mem_of_getElem? hzj)
  have hgj : pp.getD j (0, 0) = (jx, jy) := by rw [List.getD_eq_getElem?_getD, hzj]; rfl
  rw [hgj] at hsg
  have hsn := ledK_snoc (pts := pp) (cl := pc) (p := (px, py)) (k := k)
  rw [hno, Bool.false_or, hsg] at hsn
  simp only at hsn
  obtain ⟨bo, hon⟩ : ∃ q, decide (onS (ix, iy) (jx, jy) (px, py)) = q := ⟨_, rfl⟩
  rw [hon] at hsn
  by_cases h1 : k + 1 = pp.length
  ·rw [if_pos h1] at hje
   cases pc with
   | true =>
    rw [if_pos rfl] at hje
    subst hje
    refine WA ?_
    refine WA ?_
    refine WA ?_
    refine aw_cond_t rfl ?_
    refine WA ?_
    refine WA ?_
    refine aw_cond_f rfl ?_
    refine ZZ ?_
    refine aw_wk (wk_of (K := fun F H => F = [(1, .p 0 0 0), (2, .p 1 0 0), (4, .c (I k)), (5, .p 2 0 0), (6, .c (I (0 : Nat))), (8, .c (.r pw (ptR pp))), (9, .c (I (ptR pp).length)), (10, .c (I k))] ∧ H = [.box [.c (I px), .c (I py)], .box [.c (.r pw (ptR pp)), .c (B true)], .box [.c (I ix), .c (I iy)]]) [some 0, some 1, some 2] (fun _ => [(1, .p 0 0 0), (2, .p 1 0 0), (4, .c (I k)), (5, .p 2 0 0), (6, .c (I (0 : Nat))), (8, .c (.r pw (ptR pp))), (9, .c (I (ptR pp).length)), (10, .c (I k))]) (fun _ => [.box [.c (I px), .c (I py)], .box [.c (.r pw (ptR pp)), .c (B true)], .box [.c (I ix), .c (I iy)]]) (by decide) (ZNL hE) ZCF ZCH (fun _ => ⟨rfl, rfl⟩)) ?_
    rintro F H ⟨rfl, rfl⟩
    refine ZZ ?_
    refine aw_regionT [(0, none), (1, none), (2, none), (3, none), (4, none), (5, none), (6, none), (7, some [])] hMixed (by kernel_rfl) ?_
    iterate 5 refine WX2 ?_
    refine ZT rfl (rd_indexq rfl (KE (t := 78) rfl) rfl rfl (i := 0) rfl hrowj rfl) ?_
    refine WP ?_
    refine at_ef rfl rfl (ef_call0 false (fun _ => on_v (px, py) (ix, iy) (jx, jy) hp hbi hbj) rfl .fn rfl (by decide) (by kernel_rfl) rfl (fun _ => C0 rfl) (by simp)) ?_
    rintro _ _ ⟨_, _, _, ⟨rfl, rfl⟩, hF, hH⟩
    rw [hon] at hF
    (refine NST hF hH ?_; clear hF hH; rintro rfl rfl)
    refine ⟨ag_none, ?_⟩
    refine WQ ?_
    cases bo with
    | true =>
     have hyes := ledK_more hsn (show k + 1 ≤ pp.length by omega)
     rw [hyes]
     refine aw_cond_t rfl ?_
     refine WA ?_
     exact aret_1 [some 0] _ rfl rfl rfl (by decide) (ZNK rfl) ZCH ⟨rfl, rfl⟩
    | false =>
     refine aw_cond_f rfl ?_
     refine ZZ ?_
     refine WA ?_
     refine wk_of [some 0, some 1] (fun _ => [(1, .p 0 0 0), (2, .p 1 0 0), (8, .c (.r pw (ptR pp))), (9, .c (I (ptR pp).length)), (10, .c (I (k + 1 : Nat)))]) (fun _ => [.box [.c (I px), .c (I py)], .box [.c (.r pw (ptR pp)), .c (B true)]]) (by decide) (ZNL hE) ZCF ZCH (fun _ => ?_)
     exact ⟨m - 1, by omega, k + 1, by omega, hsn, rfl, rfl⟩
   | false =>
    rw [if_neg (by simp)] at hje
    subst hje
    refine WA ?_
    refine WA ?_
    refine WA ?_
    refine aw_cond_t rfl ?_
    refine WA ?_
    refine WA ?_
    refine aw_cond_t rfl ?_
    refine WA ?_
    refine aw_wk (wk_of (K := fun F H => F = [(1, .p 0 0 0), (2, .p 1 0 0), (4, .c (I j)), (5, .p 2 0 0), (6, .c (I j)), (8, .c (.r pw (ptR pp))), (9, .c (I (ptR pp).length)), (10, .c (I j))] ∧ H = [.box [.c (I px), .c (I py)], .box [.c (.r pw (ptR pp)), .c (B false)], .box [.c (I ix), .c (I iy)]]) [some 0, some 1, some 2] (fun _ => [(1, .p 0 0 0), (2, .p 1 0 0), (4, .c (I j)), (5, .p 2 0 0), (6, .c (I j)), (8, .c (.r pw (ptR pp))), (9, .c (I (ptR pp).length)), (10, .c (I j))]) (fun _ => [.box [.c (I px), .c (I py)], .box [.c (.r pw (ptR pp)), .c (B false)], .box [.c (I ix), .c (I iy)]]) (by decide) (ZNL hE) ZCF ZCH (fun _ => ⟨rfl, rfl⟩)) ?_
    rintro F H ⟨rfl, rfl⟩
    refine ZZ ?_
    refine aw_regionT [(0, none), (1, none), (2, none), (3, none), (4, none), (5, none), (6, none), (7, some [])] hMixed (by kernel_rfl) ?_
    iterate 5 refine WX2 ?_
    refine ZT rfl (rd_indexq rfl (KE (t := 78) rfl) rfl rfl (i := j) rfl hrowj rfl) ?_
    refine WP ?_
    refine at_ef rfl rfl (ef_call0 false (fun _ => on_v (px, py) (ix, iy) (jx, jy) hp hbi hbj) rfl .fn rfl (by decide) (by kernel_rfl) rfl (fun _ => C0 rfl) (by simp)) ?_
    rintro _ _ ⟨_, _, _, ⟨rfl, rfl⟩, hF, hH⟩
    rw [hon] at hF
    (refine NST hF hH ?_; clear hF hH; rintro rfl rfl)
    refine ⟨ag_none, ?_⟩
    refine WQ ?_
    cases bo with
    | true =>
     have hyes := ledK_more hsn (show j + 1 ≤ pp.length by omega)
     rw [hyes]
     refine aw_cond_t rfl ?_
     refine WA ?_
     exact aret_1 [some 0] _ rfl rfl rfl (by decide) (ZNK rfl) ZCH ⟨rfl, rfl⟩
    | false =>
     refine aw_cond_f rfl ?_
     refine ZZ ?_
     refine WA ?_
     refine wk_of [some 0, some 1] (fun _ => [(1, .p 0 0 0), (2, .p 1 0 0), (8, .c (.r pw (ptR pp))), (9, .c (I (ptR pp).length)), (10, .c (I (j + 1 : Nat)))]) (fun _ => [.box [.c (I px), .c (I py)], .box [.c (.r pw (ptR pp)), .c (B false)]]) (by decide) (ZNL hE) ZCF ZCH (fun _ => ?_)
     exact ⟨m - 1, by omega, j + 1, by omega, hsn, rfl, rfl⟩
  ·rw [if_neg h1] at hje
   subst hje
   refine WA ?_
   refine WA ?_
   refine WA ?_
   refine aw_cond_f rfl ?_
   refine ZZ ?_
   refine aw_wk (wk_of (K := fun F H => F = [(1, .p 0 0 0), (2, .p 1 0 0), (4, .c (I k)), (5, .p 2 0 0), (6, .c (I (k + 1 : Nat))), (8, .c (.r pw (ptR pp))), (9, .c (I (ptR pp).length)), (10, .c (I k))] ∧ H = [.box [.c (I px), .c (I py)], .box [.c (.r pw (ptR pp)), .c (B pc)], .box [.c (I ix), .c (I iy)]]) [some 0, some 1, some 2] (fun _ => [(1, .p 0 0 0), (2, .p 1 0 0), (4, .c (I k)), (5, .p 2 0 0), (6, .c (I (k + 1 : Nat))), (8, .c (.r pw (ptR pp))), (9, .c (I (ptR pp).length)), (10, .c (I k))]) (fun _ => [.box [.c (I px), .c (I py)], .box [.c (.r pw (ptR pp)), .c (B pc)], .box [.c (I ix), .c (I iy)]]) (by decide) (ZNL hE) ZCF ZCH (fun _ => ⟨rfl, rfl⟩)) ?_
   rintro F H ⟨rfl, rfl⟩
   refine ZZ ?_
   refine aw_regionT [(0, none), (1, none), (2, none), (3, none), (4, none), (5, none), (6, none), (7, some [])] hMixed (by kernel_rfl) ?_
   iterate 5 refine WX2 ?_
   refine ZT rfl (rd_indexq rfl (KE (t := 78) rfl) rfl rfl (i := (k + 1)) rfl hrowj rfl) ?_
   refine WP ?_
   refine at_ef rfl rfl (ef_call0 false (fun _ => on_v (px, py) (ix, iy) (jx, jy) hp hbi hbj) rfl .fn rfl (by decide) (by kernel_rfl) rfl (fun _ => C0 rfl) (by simp)) ?_
   rintro _ _ ⟨_, _, _, ⟨rfl, rfl⟩, hF, hH⟩
   rw [hon] at hF
   (refine NST hF hH ?_; clear hF hH; rintro rfl rfl)
   refine ⟨ag_none, ?_⟩
   refine WQ ?_
   cases bo with
   | true =>
    have hyes := ledK_more hsn (show k + 1 ≤ pp.length by omega)
    rw [hyes]
    refine aw_cond_t rfl ?_
    refine WA ?_
    exact aret_1 [some 0] _ rfl rfl rfl (by decide) (ZNK rfl) ZCH ⟨rfl, rfl⟩
   | false =>
    refine aw_cond_f rfl ?_
    refine ZZ ?_
    refine WA ?_
    refine wk_of [some 0, some 1] (fun _ => [(1, .p 0 0 0), (2, .p 1 0 0), (8, .c (.r pw (ptR pp))), (9, .c (I (ptR pp).length)), (10, .c (I (k + 1 : Nat)))]) (fun _ => [.box [.c (I px), .c (I py)], .box [.c (.r pw (ptR pp)), .c (B pc)]]) (by decide) (ZNL hE) ZCF ZCH (fun _ => ?_)
    exact ⟨m - 1, by omega, k + 1, by omega, hsn, rfl, rfl⟩
 obtain rfl : k = pp.length := by omega
 rw [hno]
 refine ZZ ?_
 refine WA ?_
 exact aret_1 [some 0] _ rfl rfl rfl (by decide) (ZNK rfl) ZCH ⟨rfl, rfl⟩
end Go.Proofs.YtniolldgidgffaaGreatDoor

/- Whether paths lead through a point, by value: the reference's led. -/
-- NEWM
namespace Go.Proofs.YtniolldgidgffaaGreatDoor
open Go Go.RowKit
set_option maxRecDepth 100000
theorem onS_fst (a b : Spot) : onS a b a := by
 unfold onS
 refine ⟨by rw [Int.sub_self, Int.sub_self, Int.mul_zero, Int.mul_zero], by omega, by omega⟩
theorem onS_snd (a b : Spot) : onS a b b := by
 unfold onS
 exact ⟨Int.mul_comm _ _, by omega, by omega⟩
theorem onS_same {a p : Spot} (h : onS a a p) : p = a := by
 unfold onS at h
 ext <;> omega
theorem ledK_iff {pts : List Spot} {cl : Bool} {p : Spot} : ledK pts cl p pts.length = true ↔ ∃ i, i < pts.length ∧ onS (segW pts cl i).1 (segW pts cl i).2 p := by
 unfold ledK
 rw [List.any_eq_true]
 simp only [List.mem_range, decide_eq_true_iff]
 constructor
 ·rintro ⟨i, hi, h⟩
  unfold segQ at h
  simp only at h
  by_cases h1 : i + 1 = pts.length
  ·rw [if_pos h1] at h
   cases cl with
   | true =>
    rw [if_pos rfl] at h
    refine ⟨0, by omega, ?_⟩
    unfold segW
    rw [if_neg (by omega), if_pos rfl, show pts.length - 1 = i by omega]
    exact h
   | false =>
    rw [if_neg (by simp)] at h
    have hp := onS_same h
    by_cases h2 : i = 0
    ·refine ⟨0, by omega, ?_⟩
     unfold segW
     rw [if_neg (by omega), if_neg (by simp)]
     subst h2
     exact h
    ·refine ⟨i, hi, ?_⟩
     unfold segW
     rw [if_pos (by omega), hp]
     exact onS_snd _ _
  ·rw [if_neg h1] at h
   refine ⟨i + 1, by omega, ?_⟩
   unfold segW
   rw [if_pos (by omega), Nat.add_sub_cancel]
   exact h
 ·rintro ⟨i, hi, h⟩
  unfold segW at h
  by_cases h0 : 0 < i
  ·rw [if_pos h0] at h
   refine ⟨i - 1, by omega, ?_⟩
   unfold segQ
   simp only
   rw [if_neg (by omega), show i - 1 + 1 = i by omega]
   exact h
  ·rw [if_neg h0] at h
   cases cl with
   | true =>
    rw [if_pos rfl] at h
    refine ⟨pts.length - 1, by omega, ?_⟩
    unfold segQ
    simp only
    rw [if_pos (by omega), if_pos trivial]
    exact h
   | false =>
    rw [if_neg (by simp)] at h
    have hp := onS_same h
    refine ⟨0, by omega, ?_⟩
    unfold segQ
    simp only
    rw [hp]
    exact onS_fst _ _
theorem ledB_eq {l : List Wy} {p : Spot} : (l.any fun w => ledK w.pts w.cl p w.pts.length) = ledB l p := by
 rw [Bool.eq_iff_iff, ledB_iff, List.any_eq_true]
 unfold ledL ledW
 simp only [ledK_iff]
set_option maxHeartbeats 1000000 in
theorem idxled_v (v : Value) (l : List Wy) (px py : Int) (hl : l.length ≤ 1000000) (hp : (-100000000 ≤ px ∧ px ≤ 100000000) ∧ (-100000000 ≤ py ∧ py ≤ 100000000)) (hb : ∀ w ∈ l, w.pts.length ≤ 1000 ∧ ∀ q ∈ w.pts, (-100000 ≤ q.1 ∧ q.1 ≤ 100000) ∧ (-100000 ≤ q.2 ∧ q.2 ≤ 100000)) : ACalls Tryz.prog 215 [.c (.r v (wyR l)), .f (.func 164) [.p 0 0 0]] [.box [.c (I px), .c (I py)]] fun u H => ∃ r : Int, u = .c (I r) ∧ H = [.box [.c (I px), .c (I py)]] ∧ (0 ≤ r ↔ ledB l (px, py) = true) := by
 have e1 : (wyR l).length = l.length := by simp
 rw [← ledB_eq]
 refine acalls_of (N := 19) Tryz.func215 rfl rfl (by simp) fun E hE => ?_
 refine WA ?_
 refine WA ?_
 refine aw_loopw (fun m F H => ∃ (k : Nat), m + k = l.length ∧ ((l.drop k).any fun w => ledK w.pts w.cl (px, py) w.pts.length) = (l.any fun w => ledK w.pts w.cl (px, py) w.pts.length) ∧ F = [(0, .c (.r v (wyR l))), (1, .f (.func 164) [.p 0 0 0]), (7, .c (I (wyR l).length)), (8, .c (I k))] ∧ H = [.box [.c (I px), .c (I py)]]) ?_ ?_
 ·refine wk_of [some 0] (fun _ => [(0, .c (.r v (wyR l))), (1, .f (.func 164) [.p 0 0 0]), (7, .c (I (wyR l).length)), (8, .c (I (0 : Nat)))]) (fun _ => [.box [.c (I px), .c (I py)]]) (by decide) (ZNL hE) ZCF ZCH (fun _ => ?_)
  exact ⟨l.length, 0, by omega, rfl, rfl, rfl⟩
 rintro m F H ⟨k, hk, hf, rfl, rfl⟩
 refine WA ?_
 refine aw_if rfl (fun hlt => ?_) (fun hge => ?_)
 ·obtain ⟨⟨pw, pp, pc⟩, hz⟩ : ∃ e, l[k]? = some e := ⟨_, List.getElem?_eq_getElem (by omega)⟩
  have hrow : (wyR l)[k]? = some [.r pw (ptR pp), B pc] := by rw [List.getElem?_map, hz]; rfl
  obtain ⟨hpl, hpb⟩ := hb _ (List.mem_of_getElem? hz)
  have hfd : ((l.drop k).any fun w => ledK w.pts w.cl (px, py) w.pts.length) = (ledK pp pc (px, py) pp.length || (l.drop (k + 1)).any fun w => ledK w.pts w.cl (px, py) w.pts.length) := by
   obtain ⟨h1, h2⟩ := List.getElem?_eq_some_iff.1 hz
   rw [List.drop_eq_getElem_cons h1, h2]; rfl
  refine WA ?_
  refine WR ?_
  refine al_ef rfl (ef_call [0] (fun _ => [.box [.c (I px), .c (I py)]]) false (fun _ => led1_v pw pp pc px py hpl hp hpb) rfl (.clo rfl) rfl (by decide) (by kernel_rfl) rfl ZCH (by decide) ZCH (by simp)) ?_
  rintro F1 H1 ⟨_, _, _, _, ⟨rfl, rfl⟩, hF, hH⟩
  (refine NSU hF hH ?_; clear hF hH; rintro rfl rfl)
  refine WE ?_
  refine aw_cond rfl (fun hpz => ?_) (fun hpz => ?_)
  ·refine WA ?_
   refine aret_1 [some 0] [.box [.c (I px), .c (I py)]] rfl rfl rfl (by decide) (ZNK rfl) ZCH ⟨_, rfl, rfl, ?_⟩
   rw [← hf, hfd, hpz]
   simp
  ·refine ZZ ?_
   refine WA ?_
   refine wk_of [some 0] (fun _ => [(0, .c (.r v (wyR l))), (1, .f (.func 164) [.p 0 0 0]), (7, .c (I (wyR l).length)), (8, .c (I (k + 1 : Nat)))]) (fun _ => [.box [.c (I px), .c (I py)]]) (by decide) (ZNL hE) ZCF ZCH (fun _ => ?_)
   exact ⟨m - 1, by omega, k + 1, by omega, by rw [← hf, hfd, hpz]; rfl, rfl, rfl⟩
 refine ZZ ?_
 refine WA ?_
 refine aret_1 [some 0] [.box [.c (I px), .c (I py)]] rfl rfl rfl (by decide) (ZNK rfl) ZCH ⟨_, rfl, rfl, ?_⟩
 rw [← hf, List.drop_eq_nil_of_le (by omega)]; simp
theorem contled_v (v : Value) (l : List Wy) (px py : Int) (hl : l.length ≤ 1000000) (hp : (-100000000 ≤ px ∧ px ≤ 100000000) ∧ (-100000000 ≤ py ∧ py ≤ 100000000)) (hb : ∀ w ∈ l, w.pts.length ≤ 1000 ∧ ∀ q ∈ w.pts, (-100000 ≤ q.1 ∧ q.1 ≤ 100000) ∧ (-100000 ≤ q.2 ∧ q.2 ≤ 100000)) : ACalls Tryz.prog 163 [.c (.r v (wyR l)), .f (.func 164) [.p 0 0 0]] [.box [.c (I px), .c (I py)]] fun u H => u = .c (B (ledB l (px, py))) ∧ H = [.box [.c (I px), .c (I py)]] := by
 refine acalls_of (N := 9) Tryz.func163 rfl rfl (by simp) fun E hE => ?_
 repeat' (first
  | (with_reducible refine aw_seq ?_) | (with_reducible refine aseq_n ?_) | (with_reducible refine aseq_r ?_) | (with_reducible refine ablk_n ?_) | (with_reducible refine ablk_r ?_) | (with_reducible refine ablk_e ?_) | (with_reducible refine ablk_o rfl ?_) | (with_reducible refine aseq_e ?_) | (with_reducible refine aw_skip ?_) | (with_reducible refine aw_block ?_) | (with_reducible refine aw_ret ?_) | (with_reducible refine aw_exit ?_)
  | refine aw_cond_t rfl ?_ | refine aw_cond_f rfl ?_ | refine aw_if_t rfl (by assumption) ?_ | refine aw_if_f rfl (by assumption) ?_ | refine aw_if rfl (fun _ => ?_) (fun _ => ?_) | refine aw_cond rfl (fun _ => ?_) (fun _ => ?_)
  | (refine aw_region (id := 1) ?_
     refine WO ?_
     refine al_ef rfl (ef_call [0] (fun _ => [.box [.c (I px), .c (I py)]]) false (fun _ => idxled_v v l px py hl hp hb) rfl .fn rfl (by decide) (by kernel_rfl) rfl ZCH (by decide) ZCH (by simp)) ?_
     rintro F1 H1 ⟨_, _, _, _, ⟨r, rfl, rfl, hr⟩, hF, hH⟩
     (refine NSU hF hH ?_; clear hF hH; rintro rfl rfl)
     refine WE ?_)
  | (refine aw_region ?_; refine WE ?_))
 exact aret_1 [some 0] [.box [.c (I px), .c (I py)]] rfl rfl rfl (by decide) (ZNK rfl) ZCH ⟨congrArg (fun z => AV.c (B z)) (by rw [Bool.eq_iff_iff, ← hr]; simp), rfl⟩
theorem led_v (v : Value) (l : List Wy) (px py : Int) (hl : l.length ≤ 1000000) (hp : (-100000000 ≤ px ∧ px ≤ 100000000) ∧ (-100000000 ≤ py ∧ py ≤ 100000000)) (hb : ∀ w ∈ l, w.pts.length ≤ 1000 ∧ ∀ q ∈ w.pts, (-100000 ≤ q.1 ∧ q.1 ≤ 100000) ∧ (-100000 ≤ q.2 ∧ q.2 ≤ 100000)) : ACalls Tryz.prog 102 [.c (.r v (wyR l)), .a [.c (I px), .c (I py)]] [] fun u H => u = .c (B (ledB l (px, py))) ∧ H = [] := by
 refine acalls_of (N := 8) Tryz.func102 rfl rfl (by simp) fun E hE => ?_
 refine WA ?_
 refine WR ?_
 refine al_ef rfl (ef_call [0] (fun _ => [.box [.c (I px), .c (I py)]]) false (fun _ => contled_v v l px py hl hp hb) rfl .fn rfl (by decide) (by kernel_rfl) rfl ZCH (by decide) ZCH (by simp)) ?_
 rintro F1 H1 ⟨_, _, _, _, ⟨rfl, rfl⟩, hF, hH⟩
 (refine NSU hF hH ?_; clear hF hH; rintro rfl rfl)
 refine WE ?_
 exact aret_1 [] _ rfl rfl rfl (by decide) (ZNK rfl) (fun _ => .nil) ⟨rfl, rfl⟩
end Go.Proofs.YtniolldgidgffaaGreatDoor
