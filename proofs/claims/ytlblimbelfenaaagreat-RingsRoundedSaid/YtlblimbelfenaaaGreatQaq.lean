/- Normals and corners of the reference, sides, heights of a face, by value. -/
import Derived.Test.YtlblimbelfenaaaGreatQao
import Derived.Test.YtlblimbelfenaaaGreatQap
set_option linter.unusedSimpArgs false
set_option linter.unusedVariables false
/- Vectors, faces and sides, by value: the program's functions and the reference's. -/
-- NEWM
namespace Go.Proofs.YtlblimbelfenaaaGreat
open Go Go.RowKit
set_option maxRecDepth 100000
abbrev Vec3.row (v : Vec3) : List CV := [I v.x, I v.y, I v.z]
abbrev Fac3.row (f : Fac3) : List CV := [I f.a, I f.b, I f.c]
abbrev Sid2.row (s : Sid2) : List CV := [I s.f, I s.t]
abbrev mshA (v w : Value) (V : List Vec3) (F : List Fac3) : AV := .a [.c (.r v (V.map Vec3.row)), .c (.r w (F.map Fac3.row))]
theorem outside_v (n lo hi : Int) : ACalls Tryz.prog 101 [.c (I n), .c (I lo), .c (I hi)] [] fun u H => u = .c (B (decide (n < lo) || decide (hi < n))) ∧ H = [] := by
 refine acalls_of (N := 15) Tryz.func101 rfl rfl (by simp) fun E hE => ?_
 by_cases h1 : n < lo
 ·repeat' (first
   | (with_reducible refine aw_seq ?_) | (with_reducible refine aseq_n ?_) | (with_reducible refine aseq_r ?_) | (with_reducible refine ablk_n ?_) | (with_reducible refine ablk_r ?_) | (with_reducible refine ablk_e ?_) | (with_reducible refine ablk_o rfl ?_) | (with_reducible refine aseq_e ?_) | (with_reducible refine aw_skip ?_) | (with_reducible refine aw_block ?_) | (with_reducible refine aw_ret ?_) | (with_reducible refine aw_exit ?_)
   | refine aw_cond_t rfl ?_ | refine aw_cond_f rfl ?_ | refine aw_if_t rfl (by assumption) ?_ | refine aw_if_f rfl (by assumption) ?_ | refine aw_if rfl (fun _ => ?_) (fun _ => ?_) | refine aw_cond rfl (fun _ => ?_) (fun _ => ?_)
   | (refine aw_region ?_; refine WE ?_))
  all_goals (refine aret_1 [] _ rfl rfl rfl (by decide) (ZNK rfl) (fun _ => .nil) ⟨congrArg (fun z => AV.c (B z)) ?_, rfl⟩)
  all_goals simp [*]
 ·repeat' (first
   | (with_reducible refine aw_seq ?_) | (with_reducible refine aseq_n ?_) | (with_reducible refine aseq_r ?_) | (with_reducible refine ablk_n ?_) | (with_reducible refine ablk_r ?_) | (with_reducible refine ablk_e ?_) | (with_reducible refine ablk_o rfl ?_) | (with_reducible refine aseq_e ?_) | (with_reducible refine aw_skip ?_) | (with_reducible refine aw_block ?_) | (with_reducible refine aw_ret ?_) | (with_reducible refine aw_exit ?_)
   | refine aw_cond_t rfl ?_ | refine aw_cond_f rfl ?_ | refine aw_if_t rfl (by assumption) ?_ | refine aw_if_f rfl (by assumption) ?_ | refine aw_if rfl (fun _ => ?_) (fun _ => ?_) | refine aw_cond rfl (fun _ => ?_) (fun _ => ?_)
   | (refine aw_region ?_; refine WE ?_))
  all_goals (refine aret_1 [] _ rfl rfl rfl (by decide) (ZNK rfl) (fun _ => .nil) ⟨congrArg (fun z => AV.c (B z)) ?_, rfl⟩)
  all_goals (simp [*]; try omega)
theorem rin_v (n lo hi : Int) : ACalls Tryz.prog 60 [.c (I n), .c (I lo), .c (I hi)] [] fun u H => u = .c (B (!(decide (n < lo) || decide (hi < n)))) ∧ H = [] := by
 refine acalls_of (N := 15) Tryz.func60 rfl rfl (by simp) fun E hE => ?_
 by_cases h1 : lo ≤ n
 ·repeat' (first
   | (with_reducible refine aw_seq ?_) | (with_reducible refine aseq_n ?_) | (with_reducible refine aseq_r ?_) | (with_reducible refine ablk_n ?_) | (with_reducible refine ablk_r ?_) | (with_reducible refine ablk_e ?_) | (with_reducible refine ablk_o rfl ?_) | (with_reducible refine aseq_e ?_) | (with_reducible refine aw_skip ?_) | (with_reducible refine aw_block ?_) | (with_reducible refine aw_ret ?_) | (with_reducible refine aw_exit ?_)
   | refine aw_cond_t rfl ?_ | refine aw_cond_f rfl ?_ | refine aw_if_t rfl (by assumption) ?_ | refine aw_if_f rfl (by assumption) ?_ | refine aw_if rfl (fun _ => ?_) (fun _ => ?_) | refine aw_cond rfl (fun _ => ?_) (fun _ => ?_)
   | (refine aw_region ?_; refine WE ?_))
  all_goals (refine aret_1 [] _ rfl rfl rfl (by decide) (ZNK rfl) (fun _ => .nil) ⟨congrArg (fun z => AV.c (B z)) ?_, rfl⟩)
  all_goals (rw [Bool.eq_iff_iff]; simp; try omega)
 ·repeat' (first
   | (with_reducible refine aw_seq ?_) | (with_reducible refine aseq_n ?_) | (with_reducible refine aseq_r ?_) | (with_reducible refine ablk_n ?_) | (with_reducible refine ablk_r ?_) | (with_reducible refine ablk_e ?_) | (with_reducible refine ablk_o rfl ?_) | (with_reducible refine aseq_e ?_) | (with_reducible refine aw_skip ?_) | (with_reducible refine aw_block ?_) | (with_reducible refine aw_ret ?_) | (with_reducible refine aw_exit ?_)
   | refine aw_cond_t rfl ?_ | refine aw_cond_f rfl ?_ | refine aw_if_t rfl (by assumption) ?_ | refine aw_if_f rfl (by assumption) ?_ | refine aw_if rfl (fun _ => ?_) (fun _ => ?_) | refine aw_cond rfl (fun _ => ?_) (fun _ => ?_)
   | (refine aw_region ?_; refine WE ?_))
  all_goals (refine aret_1 [] _ rfl rfl rfl (by decide) (ZNK rfl) (fun _ => .nil) ⟨congrArg (fun z => AV.c (B z)) ?_, rfl⟩)
  all_goals (rw [Bool.eq_iff_iff]; simp; try omega)
theorem farI_v (n : Int) : ACalls Tryz.prog 139 [.c (I n)] [] fun u H => u = .c (B (farI n)) ∧ H = [] := by
 refine acalls_of (N := 5) Tryz.func139 rfl rfl (by simp) fun E hE => ?_
 repeat' (first
  | (with_reducible refine aw_seq ?_) | (with_reducible refine aseq_n ?_) | (with_reducible refine aseq_r ?_) | (with_reducible refine ablk_n ?_) | (with_reducible refine ablk_r ?_) | (with_reducible refine ablk_e ?_) | (with_reducible refine ablk_o rfl ?_) | (with_reducible refine aseq_e ?_) | (with_reducible refine aw_skip ?_) | (with_reducible refine aw_block ?_) | (with_reducible refine aw_ret ?_) | (with_reducible refine aw_exit ?_)
  | refine aw_cond_t rfl ?_ | refine aw_cond_f rfl ?_ | refine aw_if_t rfl (by assumption) ?_ | refine aw_if_f rfl (by assumption) ?_ | refine aw_if rfl (fun _ => ?_) (fun _ => ?_) | refine aw_cond rfl (fun _ => ?_) (fun _ => ?_)
  | (refine aw_region (id := 1) ?_
     refine WO ?_
     refine al_ef rfl (ef_call0 false (fun _ => outside_v _ _ _) rfl .fn rfl (by decide) (by kernel_rfl) rfl (fun _g => .cons (.c rfl) (.cons (.c rfl) (.cons (.c rfl) .nil))) (by simp)) ?_
     rintro _ _ ⟨_, _, _, ⟨rfl, rfl⟩, hF, hH⟩
     (refine NST hF hH ?_; clear hF hH; rintro rfl rfl)
     refine WE ?_)
  | (refine aw_region ?_; refine WE ?_))
 refine aret_1 [] _ rfl rfl rfl (by decide) (ZNK rfl) (fun _ => .nil) ⟨rfl, rfl⟩
def Vec3.in (v : Vec3) (M : Int) : Prop := (-M ≤ v.x ∧ v.x ≤ M) ∧ (-M ≤ v.y ∧ v.y ≤ M) ∧ (-M ≤ v.z ∧ v.z ≤ M)
theorem prod_in {x y M : Int} (hM : 0 ≤ M) (hx : -M ≤ x ∧ x ≤ M) (hy : -M ≤ y ∧ y ≤ M) : -(M * M) ≤ x * y ∧ x * y ≤ M * M := by
 have h1 : (x * y).natAbs ≤ (M * M).natAbs := by
  rw [Int.natAbs_mul, Int.natAbs_mul]
  exact Nat.mul_le_mul (by omega) (by omega)
 have h2 : 0 ≤ M * M := Int.mul_nonneg hM hM
 omega
theorem less_v (a b : Vec3) (ha : a.in 1000000) (hb : b.in 1000000) : ACalls Tryz.prog 204 [.a (a.row.map .c), .a (b.row.map .c)] [] fun u H => u = .a ((sub3 a b).row.map .c) ∧ H = [] := by
 obtain ⟨ax, ay, az⟩ := a
 obtain ⟨bx, by', bz⟩ := b
 simp only [Vec3.in] at ha hb
 refine acalls_of (N := 21) Tryz.func204 rfl rfl (by simp) fun E hE => ?_
 repeat' (first
  | (with_reducible refine aw_seq ?_) | (with_reducible refine aseq_n ?_) | (with_reducible refine aseq_r ?_) | (with_reducible refine ablk_n ?_) | (with_reducible refine ablk_r ?_) | (with_reducible refine ablk_e ?_) | (with_reducible refine ablk_o rfl ?_) | (with_reducible refine aseq_e ?_) | (with_reducible refine aw_skip ?_) | (with_reducible refine aw_block ?_) | (with_reducible refine aw_ret ?_) | (with_reducible refine aw_exit ?_)
  | refine aw_cond_t rfl ?_ | refine aw_cond_f rfl ?_ | refine aw_if_t rfl (by assumption) ?_ | refine aw_if_f rfl (by assumption) ?_ | refine aw_if rfl (fun _ => ?_) (fun _ => ?_) | refine aw_cond rfl (fun _ => ?_) (fun _ => ?_)
  | (refine aw_region ?_; refine WE ?_))
 exact aret_a [] _ rfl (KK (t := 93) rfl) rfl (Cells.box rfl) (by simp) (by (try simp only [nm, putL, Nat.reduceAdd, cellsOf, cvOf]) <;> rfl) (by decide) (ZNK rfl) (fun _ => C0 rfl) (fun _ => .nil) ⟨rfl, rfl⟩
theorem rminus_v (a b : Vec3) (ha : a.in 1000000) (hb : b.in 1000000) : ACalls Tryz.prog 117 [.a (a.row.map .c), .a (b.row.map .c)] [] fun u H => u = .a ((sub3 a b).row.map .c) ∧ H = [] := by
 obtain ⟨ax, ay, az⟩ := a
 obtain ⟨bx, by', bz⟩ := b
 simp only [Vec3.in] at ha hb
 refine acalls_of (N := 21) Tryz.func117 rfl rfl (by simp) fun E hE => ?_
 repeat' (first
  | (with_reducible refine aw_seq ?_) | (with_reducible refine aseq_n ?_) | (with_reducible refine aseq_r ?_) | (with_reducible refine ablk_n ?_) | (with_reducible refine ablk_r ?_) | (with_reducible refine ablk_e ?_) | (with_reducible refine ablk_o rfl ?_) | (with_reducible refine aseq_e ?_) | (with_reducible refine aw_skip ?_) | (with_reducible refine aw_block ?_) | (with_reducible refine aw_ret ?_) | (with_reducible refine aw_exit ?_)
  | refine aw_cond_t rfl ?_ | refine aw_cond_f rfl ?_ | refine aw_if_t rfl (by assumption) ?_ | refine aw_if_f rfl (by assumption) ?_ | refine aw_if rfl (fun _ => ?_) (fun _ => ?_) | refine aw_cond rfl (fun _ => ?_) (fun _ => ?_)
  | (refine aw_region ?_; refine WE ?_))
 exact aret_a [] _ rfl (KK (t := 93) rfl) rfl (Cells.box rfl) (by simp) (by (try simp only [nm, putL, Nat.reduceAdd, cellsOf, cvOf]) <;> rfl) (by decide) (ZNK rfl) (fun _ => C0 rfl) (fun _ => .nil) ⟨rfl, rfl⟩
theorem cross_v (a b : Vec3) (ha : a.in 200000) (hb : b.in 200000) : ACalls Tryz.prog 203 [.a (a.row.map .c), .a (b.row.map .c)] [] fun u H => u = .a ((crs a b).row.map .c) ∧ H = [] := by
 obtain ⟨ax, ay, az⟩ := a
 obtain ⟨bx, by', bz⟩ := b
 simp only [Vec3.in] at ha hb
 have p1 := prod_in (by omega) ha.2.1 hb.2.2
 have p2 := prod_in (by omega) ha.2.2 hb.2.1
 have p3 := prod_in (by omega) ha.2.2 hb.1
 have p4 := prod_in (by omega) ha.1 hb.2.2
 have p5 := prod_in (by omega) ha.1 hb.2.1
 have p6 := prod_in (by omega) ha.2.1 hb.1
 refine acalls_of (N := 39) Tryz.func203 rfl rfl (by simp) fun E hE => ?_
 repeat' (first
  | (with_reducible refine aw_seq ?_) | (with_reducible refine aseq_n ?_) | (with_reducible refine aseq_r ?_) | (with_reducible refine ablk_n ?_) | (with_reducible refine ablk_r ?_) | (with_reducible refine ablk_e ?_) | (with_reducible refine ablk_o rfl ?_) | (with_reducible refine aseq_e ?_) | (with_reducible refine aw_skip ?_) | (with_reducible refine aw_block ?_) | (with_reducible refine aw_ret ?_) | (with_reducible refine aw_exit ?_)
  | refine aw_cond_t rfl ?_ | refine aw_cond_f rfl ?_ | refine aw_if_t rfl (by assumption) ?_ | refine aw_if_f rfl (by assumption) ?_ | refine aw_if rfl (fun _ => ?_) (fun _ => ?_) | refine aw_cond rfl (fun _ => ?_) (fun _ => ?_)
  | (refine aw_region ?_; refine WE ?_))
 exact aret_a [] _ rfl (KK (t := 93) rfl) rfl (Cells.box rfl) (by simp) (by (try simp only [nm, putL, Nat.reduceAdd, cellsOf, cvOf]) <;> rfl) (by decide) (ZNK rfl) (fun _ => C0 rfl) (fun _ => .nil) ⟨rfl, rfl⟩
theorem rcross_v (a b : Vec3) (ha : a.in 200000) (hb : b.in 200000) : ACalls Tryz.prog 116 [.a (a.row.map .c), .a (b.row.map .c)] [] fun u H => u = .a ((crs a b).row.map .c) ∧ H = [] := by
 obtain ⟨ax, ay, az⟩ := a
 obtain ⟨bx, by', bz⟩ := b
 simp only [Vec3.in] at ha hb
 have p1 := prod_in (by omega) ha.2.1 hb.2.2
 have p2 := prod_in (by omega) ha.2.2 hb.2.1
 have p3 := prod_in (by omega) ha.2.2 hb.1
 have p4 := prod_in (by omega) ha.1 hb.2.2
 have p5 := prod_in (by omega) ha.1 hb.2.1
 have p6 := prod_in (by omega) ha.2.1 hb.1
 refine acalls_of (N := 39) Tryz.func116 rfl rfl (by simp) fun E hE => ?_
 repeat' (first
  | (with_reducible refine aw_seq ?_) | (with_reducible refine aseq_n ?_) | (with_reducible refine aseq_r ?_) | (with_reducible refine ablk_n ?_) | (with_reducible refine ablk_r ?_) | (with_reducible refine ablk_e ?_) | (with_reducible refine ablk_o rfl ?_) | (with_reducible refine aseq_e ?_) | (with_reducible refine aw_skip ?_) | (with_reducible refine aw_block ?_) | (with_reducible refine aw_ret ?_) | (with_reducible refine aw_exit ?_)
  | refine aw_cond_t rfl ?_ | refine aw_cond_f rfl ?_ | refine aw_if_t rfl (by assumption) ?_ | refine aw_if_f rfl (by assumption) ?_ | refine aw_if rfl (fun _ => ?_) (fun _ => ?_) | refine aw_cond rfl (fun _ => ?_) (fun _ => ?_)
  | (refine aw_region ?_; refine WE ?_))
 exact aret_a [] _ rfl (KK (t := 93) rfl) rfl (Cells.box rfl) (by simp) (by (try simp only [nm, putL, Nat.reduceAdd, cellsOf, cvOf]) <;> rfl) (by decide) (ZNK rfl) (fun _ => C0 rfl) (fun _ => .nil) ⟨rfl, rfl⟩

theorem vrow {V : List Vec3} {i : Nat} (h : i < V.length) : (V.map Vec3.row)[i]? = some (vx V i).row := by
 rw [List.getElem?_map, List.getElem?_eq_getElem h]
 simp [vx, h]
theorem nearI {V : List Vec3} (hV : ∀ v ∈ V, farV v = false) {i : Nat} (h : i < V.length) : (vx V i).in 100000 := by
 have h1 := hV _ (vx_mem (V := V) (i := i) (by omega) (by omega))
 simp only [farV, farI, Bool.or_eq_false_iff, decide_eq_false_iff_not] at h1
 simp only [Vec3.in]
 omega
theorem Vec3.in_mono {v : Vec3} {M N : Int} (h : v.in M) (hM : M ≤ N) : v.in N := by
 simp only [Vec3.in] at h ⊢; omega
theorem sub3_in {a b : Vec3} {M N : Int} (ha : a.in M) (hb : b.in N) : (sub3 a b).in (M + N) := by
 simp only [Vec3.in, sub3] at ha hb ⊢; omega
theorem nrm_v (v w : Value) (V : List Vec3) (fr : List (List CV)) (ia ib ic : Nat) (hV : ∀ v ∈ V, farV v = false) (ha : ia < V.length) (hb : ib < V.length) (hc : ic < V.length) :
    ACalls Tryz.prog 143 [.a [.c (.r v (V.map Vec3.row)), .c (.r w fr)], .a [.c (I ia), .c (I ib), .c (I ic)]] [] fun u H => u = .a ((nrm V ⟨ia, ib, ic⟩).row.map .c) ∧ H = [] := by
 have ra := vrow ha
 have rb := vrow hb
 have rc := vrow hc
 refine acalls_of (N := 29) Tryz.func143 rfl rfl (by simp) fun E hE => ?_
 refine WA ?_
 refine WA ?_
 refine ZZ ?_
 refine aw_regionT [(0, none), (1, none), (2, none), (3, none), (4, none), (5, none), (6, none), (8, none), (9, none), (10, none), (11, none), (12, none), (13, none), (14, none), (7, some [8, 9, 10, 11, 12, 13, 14]), (15, some []), (16, some []), (17, some [])] hMixed (by kernel_rfl) ?_
 refine WP ?_
 refine at_ef rfl rfl (ef_call0 false (fun _ => less_v (vx V ib) (vx V ia) (Vec3.in_mono (nearI hV (by omega)) (by omega)) (Vec3.in_mono (nearI hV (by omega)) (by omega))) rfl .fn rfl (by decide) (by kernel_rfl) rfl (fun _ => C0 rfl) (by simp)) ?_
 rintro _ _ ⟨_, _, _, ⟨rfl, rfl⟩, hF, hH⟩
 (refine NST hF hH ?_; clear hF hH; rintro rfl rfl)
 refine ⟨ag_cons (by first | exact ag_rd rfl rfl rfl (ZX (KF (t := 29) (f := 0) rfl rfl)) rfl) (ag_cons (by first | exact ag_rd rfl rfl rfl (ZL (KK (t := 26) rfl)) rfl) (ag_cons (by first | exact ag_rd rfl rfl rfl (ZX (KF (t := 97) (f := 2) rfl rfl)) rfl) (ag_cons (by first | exact ag_rd rfl rfl rfl (ZL (KK (t := 3) rfl)) rfl) (ag_cons (by first | exact ag_rd rfl rfl rfl (ZI (KE (t := 26) rfl)) rfl | exact ag_rd rfl rfl rfl (ZJ (KE (t := 26) rfl)) rfl | exact ag_rd rfl rfl rfl (rd_indexj rfl (KE (t := 26) rfl) rfl rfl rfl (by first | rfl | omega) (by omega) (by omega)) rfl) (ag_cons (by first | exact ag_rd rfl rfl rfl (ZK (KK (t := 93) rfl)) rfl) (ag_cons (by first | exact ag_rd rfl rfl rfl (ZK (KK (t := 93) rfl)) rfl) (ag_none))))))), ?_⟩
 refine at_ef rfl rfl (ef_call0 false (fun _ => less_v (vx V ic) (vx V ia) (Vec3.in_mono (nearI hV (by omega)) (by omega)) (Vec3.in_mono (nearI hV (by omega)) (by omega))) rfl .fn rfl (by decide) (by kernel_rfl) rfl (fun _ => C0 rfl) (by simp)) ?_
 rintro _ _ ⟨_, _, _, ⟨rfl, rfl⟩, hF, hH⟩
 (refine NST hF hH ?_; clear hF hH; rintro rfl rfl)
 refine ⟨ag_none, ?_⟩
 refine at_ef rfl rfl (ef_call0 false (fun _ => cross_v (sub3 (vx V ib) (vx V ia)) (sub3 (vx V ic) (vx V ia)) (Vec3.in_mono (sub3_in (nearI hV (by omega)) (nearI hV (by omega))) (by omega)) (Vec3.in_mono (sub3_in (nearI hV (by omega)) (nearI hV (by omega))) (by omega))) rfl .fn rfl (by decide) (by kernel_rfl) rfl (fun _ => C0 rfl) (by simp)) ?_
 rintro _ _ ⟨_, _, _, ⟨rfl, rfl⟩, hF, hH⟩
 (refine NST hF hH ?_; clear hF hH; rintro rfl rfl)
 refine ⟨ag_none, ?_⟩
 refine WQ ?_
 exact aret_a [] _ rfl (KK (t := 93) rfl) rfl (Cells.box rfl) (by simp) (by (try simp only [nm, putL, Nat.reduceAdd, cellsOf, cvOf]) <;> rfl) (by decide) (ZNK rfl) (fun _ => C0 rfl) (fun _ => .nil) ⟨rfl, rfl⟩
end Go.Proofs.YtlblimbelfenaaaGreat

/- Normals and corners of the reference, sides, heights of a face, by value. -/
-- NEWM
namespace Go.Proofs.YtlblimbelfenaaaGreat
open Go Go.RowKit
set_option maxRecDepth 100000
theorem aret_c3 {fn : Func} {nl p q r k : Nat} {ty : TypeId} {Qr : AV → List OB → Prop} {F : Fm} {H : List OB} {u v w : AV} {a b c a' b' c' : List AV} (hr : fn.results = #[.cell p ty, .cell q ty, .cell r ty]) (hk : ldk Tryz.prog ty = some (some k)) (h1 : F.lookup p = some u) (h2 : F.lookup q = some v) (h3 : F.lookup r = some w)
    (c1 : Cells H u a) (c2 : Cells H v b) (c3 : Cells H w c) (n1 : k ≤ a.length) (n2 : k ≤ b.length) (n3 : k ≤ c.length) (e1 : a.take k = a') (e2 : b.take k = b') (e3 : c.take k = c') (hl : nl = 0) (v1 : ∀ g, CvL g [] H true a' a') (v2 : ∀ g, CvL g [] H true b' b') (v3 : ∀ g, CvL g [] H true c' c') (hq : Qr (.t [.a a', .a b', .a c']) []) : ARet Tryz.prog fn nl Qr .ret F H := by
 subst hl
 exact aret_of (us := [.a a', .a b', .a c']) [] (fun _ => .t [.a a', .a b', .a c']) (fun _ => []) (by rw [hr]; exact .cella h1 hk c1 n1 e1 (.cella h2 hk c2 n2 e2 (.cella h3 hk c3 n3 e3 .nil))) (by decide) (fun i hi => absurd hi (Nat.not_lt_zero i)) (fun g => .tL (.cons (.aL (v1 g)) (.cons (.aL (v2 g)) (.cons (.aL (v3 g)) .nil)))) (fun _ => .nil) (fun _ => hq)
theorem rcorners_v (v w : Value) (V : List Vec3) (fr : List (List CV)) (ia ib ic : Nat) (ha : ia < V.length) (hb : ib < V.length) (hc : ic < V.length) :
    ACalls Tryz.prog 115 [.a [.c (.r v (V.map Vec3.row)), .c (.r w fr)], .a [.c (I ia), .c (I ib), .c (I ic)]] [] fun u H => u = .t [.a ((vx V ia).row.map .c), .a ((vx V ib).row.map .c), .a ((vx V ic).row.map .c)] ∧ H = [] := by
 have ra := vrow ha
 have rb := vrow hb
 have rc := vrow hc
 refine acalls_of (N := 25) Tryz.func115 rfl rfl (by simp) fun E hE => ?_
 repeat' (first
  | (with_reducible refine aw_seq ?_) | (with_reducible refine aseq_n ?_) | (with_reducible refine aseq_r ?_) | (with_reducible refine ablk_n ?_) | (with_reducible refine ablk_r ?_) | (with_reducible refine ablk_e ?_) | (with_reducible refine ablk_o rfl ?_) | (with_reducible refine aseq_e ?_) | (with_reducible refine aw_skip ?_) | (with_reducible refine aw_block ?_) | (with_reducible refine aw_ret ?_) | (with_reducible refine aw_exit ?_)
  | refine aw_cond_t rfl ?_ | refine aw_cond_f rfl ?_ | refine aw_if_t rfl (by assumption) ?_ | refine aw_if_f rfl (by assumption) ?_ | refine aw_if rfl (fun _ => ?_) (fun _ => ?_) | refine aw_cond rfl (fun _ => ?_) (fun _ => ?_)
  | (refine aw_regionT (id := 1) [(0, none), (1, none), (2, none), (3, none), (4, none), (5, none), (6, none), (7, none), (8, none), (9, none), (10, none), (11, none), (12, none), (13, none), (14, none), (15, none), (16, none), (17, none), (18, some [6, 7, 8, 9, 10, 11, 12, 13, 14, 15, 16, 17]), (19, some [12, 13, 14, 15, 16, 17]), (20, some [])] hMixed (by kernel_rfl) ?_
     refine WQ ?_)
  | (refine aw_region ?_; refine WE ?_))
 exact aret_c3 rfl (KK (t := 93) rfl) rfl rfl rfl (Cells.box rfl) (Cells.box rfl) (Cells.box rfl) (by simp) (by simp) (by simp) (by (try simp only [nm, putL, Nat.reduceAdd, cellsOf, cvOf]) <;> rfl) (by (try simp only [nm, putL, Nat.reduceAdd, cellsOf, cvOf]) <;> rfl) (by (try simp only [nm, putL, Nat.reduceAdd, cellsOf, cvOf]) <;> rfl) rfl (fun _ => C0 rfl) (fun _ => C0 rfl) (fun _ => C0 rfl) ⟨rfl, rfl⟩
theorem rnrm_v (v w : Value) (V : List Vec3) (fr : List (List CV)) (ia ib ic : Nat) (hV : ∀ v ∈ V, farV v = false) (ha : ia < V.length) (hb : ib < V.length) (hc : ic < V.length) :
    ACalls Tryz.prog 61 [.a [.c (.r v (V.map Vec3.row)), .c (.r w fr)], .a [.c (I ia), .c (I ib), .c (I ic)]] [] fun u H => u = .a ((nrm V ⟨ia, ib, ic⟩).row.map .c) ∧ H = [] := by
 refine acalls_of (N := 22) Tryz.func61 rfl rfl (by simp) fun E hE => ?_
 refine WA ?_
 refine WR ?_
 refine al_ef rfl (ef_call0 false (fun _ => rcorners_v v w V fr ia ib ic ha hb hc) rfl .fn rfl (by decide) (by kernel_rfl) rfl (fun _ => C0 rfl) (by simp)) ?_
 rintro _ _ ⟨_, _, _, ⟨rfl, rfl⟩, hF, hH⟩
 (refine NST hF hH ?_; clear hF hH; rintro rfl rfl)
 refine WE ?_
 refine ZZ ?_
 refine aw_regionT [(0, none), (1, none), (3, none), (4, none), (2, some [3, 4]), (5, some []), (6, some []), (7, some [])] hMixed (by kernel_rfl) ?_
 refine WP ?_
 refine at_ef rfl rfl (ef_call0 false (fun _ => rminus_v (vx V ib) (vx V ia) (Vec3.in_mono (nearI hV (by omega)) (by omega)) (Vec3.in_mono (nearI hV (by omega)) (by omega))) rfl .fn rfl (by decide) (by kernel_rfl) rfl (fun _ => C0 rfl) (by simp)) ?_
 rintro _ _ ⟨_, _, _, ⟨rfl, rfl⟩, hF, hH⟩
 (refine NST hF hH ?_; clear hF hH; rintro rfl rfl)
 refine ⟨ag_cons (by first | exact ag_rd rfl rfl rfl (ZK (KK (t := 93) rfl)) rfl) (ag_cons (by first | exact ag_rd rfl rfl rfl (ZK (KK (t := 93) rfl)) rfl) (ag_none)), ?_⟩
 refine at_ef rfl rfl (ef_call0 false (fun _ => rminus_v (vx V ic) (vx V ia) (Vec3.in_mono (nearI hV (by omega)) (by omega)) (Vec3.in_mono (nearI hV (by omega)) (by omega))) rfl .fn rfl (by decide) (by kernel_rfl) rfl (fun _ => C0 rfl) (by simp)) ?_
 rintro _ _ ⟨_, _, _, ⟨rfl, rfl⟩, hF, hH⟩
 (refine NST hF hH ?_; clear hF hH; rintro rfl rfl)
 refine ⟨ag_none, ?_⟩
 refine at_ef rfl rfl (ef_call0 false (fun _ => rcross_v (sub3 (vx V ib) (vx V ia)) (sub3 (vx V ic) (vx V ia)) (Vec3.in_mono (sub3_in (nearI hV (by omega)) (nearI hV (by omega))) (by omega)) (Vec3.in_mono (sub3_in (nearI hV (by omega)) (nearI hV (by omega))) (by omega))) rfl .fn rfl (by decide) (by kernel_rfl) rfl (fun _ => C0 rfl) (by simp)) ?_
 rintro _ _ ⟨_, _, _, ⟨rfl, rfl⟩, hF, hH⟩
 (refine NST hF hH ?_; clear hF hH; rintro rfl rfl)
 refine ⟨ag_none, ?_⟩
 refine WQ ?_
 exact aret_a [] _ rfl (KK (t := 93) rfl) rfl (Cells.box rfl) (by simp) (by (try simp only [nm, putL, Nat.reduceAdd, cellsOf, cvOf]) <;> rfl) (by decide) (ZNK rfl) (fun _ => C0 rfl) (fun _ => .nil) ⟨rfl, rfl⟩
abbrev sdsC (f : Fac3) : List CV := [I f.a, I f.b, I f.b, I f.c, I f.c, I f.a]
theorem sides_v (f : Fac3) : ACalls Tryz.prog 127 [.a (f.row.map .c)] [] fun u H => u = .a ((sdsC f).map .c) ∧ H = [] := by
 refine acalls_of (N := 19) Tryz.func127 rfl rfl (by simp) fun E hE => ?_
 repeat' (first
  | (with_reducible refine aw_seq ?_) | (with_reducible refine aseq_n ?_) | (with_reducible refine aseq_r ?_) | (with_reducible refine ablk_n ?_) | (with_reducible refine ablk_r ?_) | (with_reducible refine ablk_e ?_) | (with_reducible refine ablk_o rfl ?_) | (with_reducible refine aseq_e ?_) | (with_reducible refine aw_skip ?_) | (with_reducible refine aw_block ?_) | (with_reducible refine aw_ret ?_) | (with_reducible refine aw_exit ?_)
  | refine aw_cond_t rfl ?_ | refine aw_cond_f rfl ?_ | refine aw_if_t rfl (by assumption) ?_ | refine aw_if_f rfl (by assumption) ?_ | refine aw_if rfl (fun _ => ?_) (fun _ => ?_) | refine aw_cond rfl (fun _ => ?_) (fun _ => ?_)
  | (refine aw_region (id := 1) ?_
     iterate 15 refine WX1 ?_
     refine ZA (rd_builda (pl := [(0, 2), (2, 2), (4, 2)]) rfl (KZ (t := 175) rfl) rfl (by kernel_rfl) (Zbc (z := Zbc (z := Zbc (z := .nil))))) ?_
     refine WE ?_)
  | (refine aw_region ?_; refine WE ?_))
 exact aret_a [] _ rfl (KK (t := 175) rfl) rfl (Cells.box rfl) (by simp) (by (try simp only [nm, putL, Nat.reduceAdd, cellsOf, cvOf]) <;> rfl) (by decide) (ZNK rfl) (fun _ => C0 rfl) (fun _ => .nil) ⟨rfl, rfl⟩
theorem rsides_v (f : Fac3) : ACalls Tryz.prog 62 [.a (f.row.map .c)] [] fun u H => (∃ q, u = .c (.r q ((sds f).map Sid2.row))) ∧ H = [] := by
 refine acalls_of (N := 19) Tryz.func62 rfl rfl (by simp) fun E hE => ?_
 repeat' (first
  | (with_reducible refine aw_seq ?_) | (with_reducible refine aseq_n ?_) | (with_reducible refine aseq_r ?_) | (with_reducible refine ablk_n ?_) | (with_reducible refine ablk_r ?_) | (with_reducible refine ablk_e ?_) | (with_reducible refine ablk_o rfl ?_) | (with_reducible refine aseq_e ?_) | (with_reducible refine aw_skip ?_) | (with_reducible refine aw_block ?_) | (with_reducible refine aw_ret ?_) | (with_reducible refine aw_exit ?_)
  | refine aw_cond_t rfl ?_ | refine aw_cond_f rfl ?_ | refine aw_if_t rfl (by assumption) ?_ | refine aw_if_f rfl (by assumption) ?_ | refine aw_if rfl (fun _ => ?_) (fun _ => ?_) | refine aw_cond rfl (fun _ => ?_) (fun _ => ?_)
  | (refine aw_region ?_; refine WE ?_))
 exact aret_f1 [] _ rfl rfl rfl rfl rfl rfl rfl (by decide) (ZNK rfl) (fun _ => .nil) (fun q => ⟨⟨q, rfl⟩, rfl⟩)
theorem heights_v (v w : Value) (V : List Vec3) (fr : List (List CV)) (ia ib ic : Nat) (ha : ia < V.length) (hb : ib < V.length) (hc : ic < V.length) :
    ACalls Tryz.prog 98 [.a [.c (.r v (V.map Vec3.row)), .c (.r w fr)], .a [.c (I ia), .c (I ib), .c (I ic)]] [] fun u H => u = .a ((fzs V ⟨ia, ib, ic⟩).map fun z => .c (I z)) ∧ H = [] := by
 have ra := vrow ha
 have rb := vrow hb
 have rc := vrow hc
 refine acalls_of (N := 27) Tryz.func98 rfl rfl (by simp) fun E hE => ?_
 refine WA ?_
 refine ZZ ?_
 refine aw_regionT [(0, none), (1, none), (2, none), (3, none), (4, none), (5, none), (6, none), (7, none), (8, none), (9, none), (10, none), (11, none), (12, none), (13, none), (14, none), (15, none), (16, none), (17, none), (18, none), (19, none), (20, none), (21, none), (22, some [])] hMixed (by kernel_rfl) ?_
 iterate 21 refine WX2 ?_
 refine ZT rfl (rd_builda (pl := [(0, 1), (1, 1), (2, 1)]) rfl (KZ (t := 148) rfl) rfl (by kernel_rfl) (Zbc (z := Zbc (z := Zbc (z := .nil))))) ?_
 refine WQ ?_
 exact aret_a [] _ rfl (KK (t := 148) rfl) rfl (Cells.box rfl) (by simp) (by (try simp only [nm, putL, Nat.reduceAdd, cellsOf, cvOf]) <;> rfl) (by decide) (ZNK rfl) (fun _ => C0 rfl) (fun _ => .nil) ⟨rfl, rfl⟩
end Go.Proofs.YtlblimbelfenaaaGreat
