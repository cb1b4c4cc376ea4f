/- Faults of meshes: the reference's and the program's, by value. -/
import Derived.Test.YthanangkmjjbaaaGreatDoorQat
set_option linter.unusedSimpArgs false
set_option linter.unusedVariables false
/- Normals and corners of the reference, sides, heights of a face, by value. -/
-- NEWM
namespace Go.Proofs.YthanangkmjjbaaaGreatDoor
open Go Go.RowKit
set_option maxRecDepth 100000
/-- Three structs as results. -/
theorem aret_c3 {fn : Func} {nl p q r k : Nat} {ty : TypeId} {Qr : AV → List OB → Prop} {F : Fm} {H : List OB} {u v w : AV} {a b c a' b' c' : List AV} (hr : fn.results = #[.cell p ty, .cell q ty, .cell r ty]) (hk : ldk Tryz.prog ty = some (some k)) (h1 : F.lookup p = some u) (h2 : F.lookup q = some v) (h3 : F.lookup r = some w)
    (c1 : Cells H u a) (c2 : Cells H v b) (c3 : Cells H w c) (n1 : k ≤ a.length) (n2 : k ≤ b.length) (n3 : k ≤ c.length) (e1 : a.take k = a') (e2 : b.take k = b') (e3 : c.take k = c') (hl : nl = 0) (v1 : ∀ g, CvL g [] H true a' a') (v2 : ∀ g, CvL g [] H true b' b') (v3 : ∀ g, CvL g [] H true c' c') (hq : Qr (.t [.a a', .a b', .a c']) []) : ARet Tryz.prog fn nl Qr .ret F H := by
  subst hl
  exact aret_of (us := [.a a', .a b', .a c']) [] (fun _ => .t [.a a', .a b', .a c']) (fun _ => []) (by rw [hr]; exact .cella h1 hk c1 n1 e1 (.cella h2 hk c2 n2 e2 (.cella h3 hk c3 n3 e3 .nil))) (by decide) (fun i hi => absurd hi (Nat.not_lt_zero i)) (fun g => .tL (.cons (.aL (v1 g)) (.cons (.aL (v2 g)) (.cons (.aL (v3 g)) .nil)))) (fun _ => .nil) (fun _ => hq)
theorem rcorners_v (v w : Value) (V : List Vec3) (fr : List (List CV)) (ia ib ic : Nat) (ha : ia < V.length) (hb : ib < V.length) (hc : ic < V.length) :
    ACalls Tryz.prog 154 [.a [.c (.r v (V.map Vec3.row)), .c (.r w fr)], .a [.c (I ia), .c (I ib), .c (I ic)]] [] fun u H => u = .t [.a ((vx V ia).row.map .c), .a ((vx V ib).row.map .c), .a ((vx V ic).row.map .c)] ∧ H = [] := by
  have ra := vrow ha
  have rb := vrow hb
  have rc := vrow hc
  refine acalls_of (N := 25) Tryz.func154 rfl rfl (by simp) fun E hE => ?_
  repeat' (first
    | (with_reducible refine aw_seq ?_) | (with_reducible refine aseq_n ?_) | (with_reducible refine aseq_r ?_) | (with_reducible refine ablk_n ?_) | (with_reducible refine ablk_r ?_) | (with_reducible refine ablk_e ?_) | (with_reducible refine ablk_o rfl ?_) | (with_reducible refine aseq_e ?_) | (with_reducible refine aw_skip ?_) | (with_reducible refine aw_block ?_) | (with_reducible refine aw_ret ?_) | (with_reducible refine aw_exit ?_)
    | refine aw_cond_t rfl ?_ | refine aw_cond_f rfl ?_ | refine aw_if_t rfl (by assumption) ?_ | refine aw_if_f rfl (by assumption) ?_ | refine aw_if rfl (fun _ => ?_) (fun _ => ?_) | refine aw_cond rfl (fun _ => ?_) (fun _ => ?_)
    | (refine aw_regionT (id := 1) [(0, none), (1, none), (2, none), (3, none), (4, none), (5, none), (6, none), (7, none), (8, none), (9, none), (10, none), (11, none), (12, none), (13, none), (14, none), (15, none), (16, none), (17, none), (18, some [6, 7, 8, 9, 10, 11, 12, 13, 14, 15, 16, 17]), (19, some [12, 13, 14, 15, 16, 17]), (20, some [])] hMixed (by kernel_rfl) ?_
       refine WQ ?_)
    | (refine aw_region ?_; refine WE ?_))
  exact aret_c3 rfl (KK (t := 34) rfl) rfl rfl rfl (Cells.box rfl) (Cells.box rfl) (Cells.box rfl) (by simp) (by simp) (by simp) (by (try simp only [nm, putL, Nat.reduceAdd, cellsOf, cvOf]) <;> rfl) (by (try simp only [nm, putL, Nat.reduceAdd, cellsOf, cvOf]) <;> rfl) (by (try simp only [nm, putL, Nat.reduceAdd, cellsOf, cvOf]) <;> rfl) rfl (fun _ => C0 rfl) (fun _ => C0 rfl) (fun _ => C0 rfl) ⟨rfl, rfl⟩
theorem rnrm_v (v w : Value) (V : List Vec3) (fr : List (List CV)) (ia ib ic : Nat) (hV : ∀ v ∈ V, farV v = false) (ha : ia < V.length) (hb : ib < V.length) (hc : ic < V.length) :
    ACalls Tryz.prog 112 [.a [.c (.r v (V.map Vec3.row)), .c (.r w fr)], .a [.c (I ia), .c (I ib), .c (I ic)]] [] fun u H => u = .a ((nrm V ⟨ia, ib, ic⟩).row.map .c) ∧ H = [] := by
  refine acalls_of (N := 22) Tryz.func112 rfl rfl (by simp) fun E hE => ?_
  refine WA ?_
  refine WR ?_
  refine al_ef rfl (ef_call0 false (fun _ => rcorners_v v w V fr ia ib ic ha hb hc) rfl .fn rfl (by decide) (by kernel_rfl) rfl (fun _ => C0 rfl) (by simp)) ?_
  rintro _ _ ⟨_, _, _, ⟨rfl, rfl⟩, hF, hH⟩
  (try simp only [nsl, Nat.reduceAdd, Nat.reduceLT, Nat.reduceSub] at hF); (try simp only [nsl, Nat.reduceAdd, Nat.reduceLT, Nat.reduceSub] at hH); subst hF; subst hH
  refine WE ?_
  refine ZZ ?_
  refine aw_regionT [(0, none), (1, none), (3, none), (4, none), (2, some [3, 4]), (5, some []), (6, some []), (7, some [])] hMixed (by kernel_rfl) ?_
  refine WP ?_
  refine at_ef rfl rfl (ef_call0 false (fun _ => rminus_v (vx V ib) (vx V ia) (Vec3.in_mono (nearI hV (by omega)) (by omega)) (Vec3.in_mono (nearI hV (by omega)) (by omega))) rfl .fn rfl (by decide) (by kernel_rfl) rfl (fun _ => C0 rfl) (by simp)) ?_
  rintro _ _ ⟨_, _, _, ⟨rfl, rfl⟩, hF, hH⟩
  (try simp only [nsl, Nat.reduceAdd, Nat.reduceLT, Nat.reduceSub] at hF); (try simp only [nsl, Nat.reduceAdd, Nat.reduceLT, Nat.reduceSub] at hH); subst hF; subst hH
  refine ⟨ag_cons (by first | exact ag_rd rfl rfl rfl (ZK (KK (t := 34) rfl)) rfl) (ag_cons (by first | exact ag_rd rfl rfl rfl (ZK (KK (t := 34) rfl)) rfl) (ag_none)), ?_⟩
  refine at_ef rfl rfl (ef_call0 false (fun _ => rminus_v (vx V ic) (vx V ia) (Vec3.in_mono (nearI hV (by omega)) (by omega)) (Vec3.in_mono (nearI hV (by omega)) (by omega))) rfl .fn rfl (by decide) (by kernel_rfl) rfl (fun _ => C0 rfl) (by simp)) ?_
  rintro _ _ ⟨_, _, _, ⟨rfl, rfl⟩, hF, hH⟩
  (try simp only [nsl, Nat.reduceAdd, Nat.reduceLT, Nat.reduceSub] at hF); (try simp only [nsl, Nat.reduceAdd, Nat.reduceLT, Nat.reduceSub] at hH); subst hF; subst hH
  refine ⟨ag_none, ?_⟩
  refine at_ef rfl rfl (ef_call0 false (fun _ => rcross_v (sub3 (vx V ib) (vx V ia)) (sub3 (vx V ic) (vx V ia)) (Vec3.in_mono (sub3_in (nearI hV (by omega)) (nearI hV (by omega))) (by omega)) (Vec3.in_mono (sub3_in (nearI hV (by omega)) (nearI hV (by omega))) (by omega))) rfl .fn rfl (by decide) (by kernel_rfl) rfl (fun _ => C0 rfl) (by simp)) ?_
  rintro _ _ ⟨_, _, _, ⟨rfl, rfl⟩, hF, hH⟩
  (try simp only [nsl, Nat.reduceAdd, Nat.reduceLT, Nat.reduceSub] at hF); (try simp only [nsl, Nat.reduceAdd, Nat.reduceLT, Nat.reduceSub] at hH); subst hF; subst hH
  refine ⟨ag_none, ?_⟩
  refine WQ ?_
  exact aret_a [] _ rfl (KK (t := 34) rfl) rfl (Cells.box rfl) (by simp) (by (try simp only [nm, putL, Nat.reduceAdd, cellsOf, cvOf]) <;> rfl) (by decide) (ZNK rfl) (fun _ => C0 rfl) (fun _ => .nil) ⟨rfl, rfl⟩
/-- The cells of a face's sides. -/
abbrev sdsC (f : Fac3) : List CV := [I f.a, I f.b, I f.b, I f.c, I f.c, I f.a]
theorem sides_v (f : Fac3) : ACalls Tryz.prog 114 [.a (f.row.map .c)] [] fun u H => u = .a ((sdsC f).map .c) ∧ H = [] := by
  refine acalls_of (N := 19) Tryz.func114 rfl rfl (by simp) fun E hE => ?_
  repeat' (first
    | (with_reducible refine aw_seq ?_) | (with_reducible refine aseq_n ?_) | (with_reducible refine aseq_r ?_) | (with_reducible refine ablk_n ?_) | (with_reducible refine ablk_r ?_) | (with_reducible refine ablk_e ?_) | (with_reducible refine ablk_o rfl ?_) | (with_reducible refine aseq_e ?_) | (with_reducible refine aw_skip ?_) | (with_reducible refine aw_block ?_) | (with_reducible refine aw_ret ?_) | (with_reducible refine aw_exit ?_)
    | refine aw_cond_t rfl ?_ | refine aw_cond_f rfl ?_ | refine aw_if_t rfl (by assumption) ?_ | refine aw_if_f rfl (by assumption) ?_ | refine aw_if rfl (fun _ => ?_) (fun _ => ?_) | refine aw_cond rfl (fun _ => ?_) (fun _ => ?_)
    | (refine aw_region (id := 1) ?_
       iterate 15 refine WX1 ?_
       refine ZA (rd_builda (pl := [(0, 2), (2, 2), (4, 2)]) rfl (KZ (t := 200) rfl) rfl (by kernel_rfl) (Zbc (z := Zbc (z := Zbc (z := .nil))))) ?_
       refine WE ?_)
    | (refine aw_region ?_; refine WE ?_))
  exact aret_a [] _ rfl (KK (t := 200) rfl) rfl (Cells.box rfl) (by simp) (by (try simp only [nm, putL, Nat.reduceAdd, cellsOf, cvOf]) <;> rfl) (by decide) (ZNK rfl) (fun _ => C0 rfl) (fun _ => .nil) ⟨rfl, rfl⟩
theorem rsides_v (f : Fac3) : ACalls Tryz.prog 87 [.a (f.row.map .c)] [] fun u H => (∃ q, u = .c (.r q ((sds f).map Sid2.row))) ∧ H = [] := by
  refine acalls_of (N := 19) Tryz.func87 rfl rfl (by simp) fun E hE => ?_
  repeat' (first
    | (with_reducible refine aw_seq ?_) | (with_reducible refine aseq_n ?_) | (with_reducible refine aseq_r ?_) | (with_reducible refine ablk_n ?_) | (with_reducible refine ablk_r ?_) | (with_reducible refine ablk_e ?_) | (with_reducible refine ablk_o rfl ?_) | (with_reducible refine aseq_e ?_) | (with_reducible refine aw_skip ?_) | (with_reducible refine aw_block ?_) | (with_reducible refine aw_ret ?_) | (with_reducible refine aw_exit ?_)
    | refine aw_cond_t rfl ?_ | refine aw_cond_f rfl ?_ | refine aw_if_t rfl (by assumption) ?_ | refine aw_if_f rfl (by assumption) ?_ | refine aw_if rfl (fun _ => ?_) (fun _ => ?_) | refine aw_cond rfl (fun _ => ?_) (fun _ => ?_)
    | (refine aw_region ?_; refine WE ?_))
  exact aret_f1 [] _ rfl rfl rfl rfl rfl rfl rfl (by decide) (ZNK rfl) (fun _ => .nil) (fun q => ⟨⟨q, rfl⟩, rfl⟩)
theorem heights_v (v w : Value) (V : List Vec3) (fr : List (List CV)) (ia ib ic : Nat) (ha : ia < V.length) (hb : ib < V.length) (hc : ic < V.length) :
    ACalls Tryz.prog 68 [.a [.c (.r v (V.map Vec3.row)), .c (.r w fr)], .a [.c (I ia), .c (I ib), .c (I ic)]] [] fun u H => u = .a ((fzs V ⟨ia, ib, ic⟩).map fun z => .c (I z)) ∧ H = [] := by
  have ra := vrow ha
  have rb := vrow hb
  have rc := vrow hc
  refine acalls_of (N := 27) Tryz.func68 rfl rfl (by simp) fun E hE => ?_
  refine WA ?_
  refine ZZ ?_
  refine aw_regionT [(0, none), (1, none), (2, none), (3, none), (4, none), (5, none), (6, none), (7, none), (8, none), (9, none), (10, none), (11, none), (12, none), (13, none), (14, none), (15, none), (16, none), (17, none), (18, none), (19, none), (20, none), (21, none), (22, some [])] hMixed (by kernel_rfl) ?_
  iterate 21 refine WX2 ?_
  refine ZT rfl (rd_builda (pl := [(0, 1), (1, 1), (2, 1)]) rfl (KZ (t := 141) rfl) rfl (by kernel_rfl) (Zbc (z := Zbc (z := Zbc (z := .nil))))) ?_
  refine WQ ?_
  exact aret_a [] _ rfl (KK (t := 141) rfl) rfl (Cells.box rfl) (by simp) (by (try simp only [nm, putL, Nat.reduceAdd, cellsOf, cvOf]) <;> rfl) (by decide) (ZNK rfl) (fun _ => C0 rfl) (fun _ => .nil) ⟨rfl, rfl⟩
end Go.Proofs.YthanangkmjjbaaaGreatDoor

/- Faults of meshes: the reference's and the program's, by value. -/
-- NEWM
namespace Go.Proofs.YthanangkmjjbaaaGreatDoor
open Go Go.RowKit
set_option maxRecDepth 100000
theorem any_dropk {α : Type} {l : List α} {k : Nat} {z : α} (p : α → Bool) (h : l[k]? = some z) : (l.drop k).any p = (p z || (l.drop (k + 1)).any p) := by
  obtain ⟨h1, h2⟩ := List.getElem?_eq_some_iff.1 h
  rw [List.drop_eq_getElem_cons h1, List.any_cons, h2]
abbrev vR (V : List Vec3) : List (List CV) := V.map Vec3.row
abbrev fR (F : List Fac3) : List (List CV) := F.map Fac3.row
def coords (v : Vec3) : List Int := [v.x, v.y, v.z]
theorem farV_any (v : Vec3) : farV v = (coords v).any farI := by simp [farV, coords, Bool.or_assoc]
theorem vecfault_v (v : Value) (V : List Vec3) (hl : V.length ≤ 1000000) : ACalls Tryz.prog 111 [.c (.r v (vR V))] [] fun u H => u = .c (I (if V.any farV = true then 1 else 0)) ∧ H = [] := by
  have e1 : (vR V).length = V.length := by simp
  refine acalls_of (N := 30) Tryz.func111 rfl rfl (by simp) fun E hE => ?_
  refine WA ?_
  refine WA ?_
  refine aw_loopw (fun m F H => ∃ (k : Nat), m + k = V.length ∧ (V.drop k).any farV = V.any farV ∧ F = [(7, .c (.r v (vR V))), (8, .c (I (vR V).length)), (9, .c (I k))] ∧ H = []) ?_ ?_
  · refine wk_of [] (fun _ => [(7, .c (.r v (vR V))), (8, .c (I (vR V).length)), (9, .c (I (0 : Nat)))]) (fun _ => _) (by decide) (ZNL hE) ZCF (fun _ => .nil) (fun _ => ?_)
    exact ⟨V.length, 0, by omega, rfl, rfl, rfl⟩
  rintro m F H ⟨k, hk, hf, rfl, rfl⟩
  refine WA ?_
  refine aw_if rfl (fun hlt => ?_) (fun hge => ?_)
  · obtain ⟨z, hz⟩ : ∃ z, V[k]? = some z := ⟨_, List.getElem?_eq_getElem (by omega)⟩
    have hrow : (vR V)[k]? = some z.row := by rw [List.getElem?_map, hz]; rfl
    have hfd := any_dropk farV hz
    refine WA ?_
    refine WA ?_
    refine aw_loopw (fun m2 F H => ∃ (j : Nat), m2 + j = 3 ∧ ((coords z).drop j).any farI = (coords z).any farI ∧ F = [(7, .c (.r v (vR V))), (8, .c (I (vR V).length)), (9, .c (I k)), (19, .o 0 0 3 3), (20, .c (I (3 : Nat))), (21, .c (I j))] ∧ H = [.arr 3 1 3 ((coords z).map fun n => [I n])]) ?_ ?_
    · refine wk_of [some 1] (fun _ => [(7, .c (.r v (vR V))), (8, .c (I (vR V).length)), (9, .c (I k)), (19, .o 0 0 3 3), (20, .c (I (3 : Nat))), (21, .c (I (0 : Nat)))]) (fun _ => [.arr 3 1 3 ((coords z).map fun n => [I n])]) (by decide) (ZNL hE) ZCF ZCH (fun _ => ?_)
      exact ⟨3, 0, rfl, rfl, rfl, rfl⟩
    rintro m2 F H ⟨j, hj, hg, rfl, rfl⟩
    refine WA ?_
    refine aw_if rfl (fun hlt2 => ?_) (fun hge2 => ?_)
    · obtain ⟨n, hn⟩ : ∃ n, (coords z)[j]? = some n := ⟨_, List.getElem?_eq_getElem (by simp [coords]; omega)⟩
      have hrow2 : ((coords z).map fun n => [I n])[j]? = some [I n] := by rw [List.getElem?_map, hn]; rfl
      have hgd := any_dropk farI hn
      refine WA ?_
      refine WR ?_
      refine al_ef rfl (ef_call0 false (fun _ => rin_v _ _ _) rfl .fn rfl (by decide) (by kernel_rfl) rfl (fun _g => .cons (.c rfl) (.cons (.c rfl) (.cons (.c rfl) .nil))) (by simp)) ?_
      rintro _ _ ⟨_, _, _, ⟨rfl, rfl⟩, hF, hH⟩
      (try simp only [nsl, Nat.reduceAdd, Nat.reduceLT, Nat.reduceSub] at hF); (try simp only [nsl, Nat.reduceAdd, Nat.reduceLT, Nat.reduceSub] at hH); subst hF; subst hH
      refine WE ?_
      refine aw_cond rfl (fun hb => ?_) (fun hb => ?_)
      · refine WA ?_
        refine aret_1 [] _ rfl rfl rfl (by decide) (ZNK rfl) (fun _ => .nil) ⟨?_, rfl⟩
        have h1 : farI n = true := by simpa [farI] using hb
        have h2 : V.any farV = true := by rw [← hf, hfd, farV_any, ← hg, hgd, h1]; simp
        rw [if_pos h2]
      · refine WA ?_
        refine wk_of [some 0] (fun _ => [(7, .c (.r v (vR V))), (8, .c (I (vR V).length)), (9, .c (I k)), (19, .o 0 0 3 3), (20, .c (I (3 : Nat))), (21, .c (I (j + 1 : Nat)))]) (fun _ => [.arr 3 1 3 ((coords z).map fun n => [I n])]) (by decide) (ZNL hE) ZCF ZCH (fun _ => ?_)
        have h1 : farI n = false := by simpa [farI] using hb
        exact ⟨m2 - 1, by omega, j + 1, by omega, by rw [← hg, hgd, h1, Bool.false_or], rfl, rfl⟩
    refine ZZ ?_
    refine WA ?_
    refine wk_of [] (fun _ => [(7, .c (.r v (vR V))), (8, .c (I (vR V).length)), (9, .c (I (k + 1 : Nat)))]) (fun _ => _) (by decide) (ZNL hE) ZCF (fun _ => .nil) (fun _ => ?_)
    have h1 : farV z = false := by
      rw [farV_any, ← hg, List.drop_eq_nil_of_le (by simp [coords]; omega)]; rfl
    exact ⟨m - 1, by omega, k + 1, by omega, by rw [← hf, hfd, h1, Bool.false_or], rfl, rfl⟩
  refine WA ?_
  refine aret_1 [] _ rfl rfl rfl (by decide) (ZNK rfl) (fun _ => .nil) ⟨?_, rfl⟩
  have h2 : V.any farV = false := by rw [← hf, List.drop_eq_nil_of_le (by omega)]; rfl
  rw [h2]; rfl
def corn (f : Fac3) : List Int := [f.a, f.b, f.c]
theorem outs_any (V : List Vec3) (f : Fac3) : (outI V f.a || outI V f.b || outI V f.c) = (corn f).any (outI V) := by simp [corn, Bool.or_assoc]
abbrev mBox (v w : Value) (V : List Vec3) (fr : List (List CV)) : OB := .box [.c (.r v (vR V)), .c (.r w fr)]
abbrev fBox (a b c : Int) : OB := .box [.c (I a), .c (I b), .c (I c)]
theorem zeroV (n : Vec3) : (n = ⟨0, 0, 0⟩) ↔ (n.x = 0 ∧ n.y = 0 ∧ n.z = 0) := by
  obtain ⟨x, y, z⟩ := n
  simp
theorem facefault_v (v w : Value) (V : List Vec3) (fr : List (List CV)) (f : Fac3) (hV : ∀ v ∈ V, farV v = false) (hl : V.length ≤ 1000000) :
    ACalls Tryz.prog 121 [.a [.c (.r v (vR V)), .c (.r w fr)], .a (f.row.map .c)] [] fun u H => u = .c (I (ffP V f)) ∧ H = [] := by
  have e1 : (vR V).length = V.length := by simp
  obtain ⟨fa, fb, fc⟩ := f
  refine acalls_of (N := 55) Tryz.func121 rfl rfl (by simp) fun E hE => ?_
  refine WA ?_
  refine WA ?_
  refine aw_loopw (fun m2 F H => ∃ (j : Nat), m2 + j = 3 ∧ ((corn ⟨fa, fb, fc⟩).drop j).any (outI V) = (corn ⟨fa, fb, fc⟩).any (outI V) ∧ F = [(2, .p 0 0 0), (3, .p 1 0 0), (13, .o 2 0 3 3), (14, .c (I (3 : Nat))), (15, .c (I j))] ∧ H = [mBox v w V fr, fBox fa fb fc, .arr 3 1 3 ((corn ⟨fa, fb, fc⟩).map fun n => [I n])]) ?_ ?_
  · refine wk_of [some 0, some 1, some 2] (fun _ => [(2, .p 0 0 0), (3, .p 1 0 0), (13, .o 2 0 3 3), (14, .c (I (3 : Nat))), (15, .c (I (0 : Nat)))]) (fun _ => [mBox v w V fr, fBox fa fb fc, .arr 3 1 3 ((corn ⟨fa, fb, fc⟩).map fun n => [I n])]) (by decide) (ZNL hE) ZCF ZCH (fun _ => ?_)
    exact ⟨3, 0, rfl, rfl, rfl, rfl⟩
  rintro m2 F H ⟨j, hj, hg, rfl, rfl⟩
  refine WA ?_
  refine aw_if rfl (fun hlt2 => ?_) (fun hge2 => ?_)
  · obtain ⟨n, hn⟩ : ∃ n, (corn ⟨fa, fb, fc⟩)[j]? = some n := ⟨_, List.getElem?_eq_getElem (by simp [corn]; omega)⟩
    have hrow2 : ((corn ⟨fa, fb, fc⟩).map fun n => [I n])[j]? = some [I n] := by rw [List.getElem?_map, hn]; rfl
    have hgd := any_dropk (outI V) hn
    by_cases ho : outI V n = true
    · have h2 : (corn ⟨fa, fb, fc⟩).any (outI V) = true := by rw [← hg, hgd, ho]; rfl
      have ho' : n < 0 ∨ (V.length : Int) ≤ n := by simpa [outI] using ho
      by_cases h0 : n < 0
      · refine WA ?_
        refine WA ?_
        refine aw_cond_t rfl ?_
        refine WA ?_
        refine aret_1 [] _ rfl rfl rfl (by decide) (ZNK rfl) (fun _ => .nil) ⟨?_, rfl⟩
        rw [ffP, outs_any, if_pos h2]
      · have h1 : (V.length : Int) ≤ n := by omega
        refine WA ?_
        refine WA ?_
        refine aw_cond rfl (fun _ => ?_) (fun hb => absurd hb (by simp; try omega))
        refine WA ?_
        refine aret_1 [] _ rfl rfl rfl (by decide) (ZNK rfl) (fun _ => .nil) ⟨?_, rfl⟩
        rw [ffP, outs_any, if_pos h2]
    · have ho' : 0 ≤ n ∧ n < (V.length : Int) := by simp [outI] at ho; omega
      refine WA ?_
      refine WA ?_
      refine aw_cond rfl (fun hb => absurd hb (by simp; try omega)) (fun _ => ?_)
      refine WA ?_
      refine wk_of [some 0, some 1, some 2] (fun _ => [(2, .p 0 0 0), (3, .p 1 0 0), (13, .o 2 0 3 3), (14, .c (I (3 : Nat))), (15, .c (I (j + 1 : Nat)))]) (fun _ => [mBox v w V fr, fBox fa fb fc, .arr 3 1 3 ((corn ⟨fa, fb, fc⟩).map fun n => [I n])]) (by decide) (ZNL hE) ZCF ZCH (fun _ => ?_)
      exact ⟨m2 - 1, by omega, j + 1, by omega, by rw [← hg, hgd, Bool.eq_false_iff.2 ho, Bool.false_or], rfl, rfl⟩
  refine ZZ ?_
  have h2 : (corn ⟨fa, fb, fc⟩).any (outI V) = false := by rw [← hg, List.drop_eq_nil_of_le (by simp [corn]; omega)]; rfl
  have h3 : (outI V fa || outI V fb || outI V fc) = false := by rw [← h2, ← outs_any]
  simp only [outI, Bool.or_eq_false_iff, decide_eq_false_iff_not] at h3
  obtain ⟨ia, ha⟩ : ∃ i : Nat, fa = i := ⟨fa.toNat, by omega⟩
  obtain ⟨ib, hb⟩ : ∃ i : Nat, fb = i := ⟨fb.toNat, by omega⟩
  obtain ⟨ic, hc⟩ : ∃ i : Nat, fc = i := ⟨fc.toNat, by omega⟩
  subst ha; subst hb; subst hc
  by_cases g1 : (ia : Int) = ib
  · refine WR ?_
    refine WE ?_
    refine aw_cond rfl (fun _ => ?_) (fun hb => absurd hb (by simp))
    refine WA ?_
    refine aret_1 [] _ rfl rfl rfl (by decide) (ZNK rfl) (fun _ => .nil) ⟨?_, rfl⟩
    rw [ffP, outs_any, h2, if_neg (by simp), if_pos (.inl g1)]
  by_cases g2 : (ib : Int) = ic
  · refine WR ?_
    refine WE ?_
    refine aw_cond rfl (fun _ => ?_) (fun hb => absurd hb (by simp))
    refine WA ?_
    refine aret_1 [] _ rfl rfl rfl (by decide) (ZNK rfl) (fun _ => .nil) ⟨?_, rfl⟩
    rw [ffP, outs_any, h2, if_neg (by simp), if_pos (.inr (.inl g2))]
  by_cases g3 : (ic : Int) = ia
  · refine WR ?_
    refine WE ?_
    refine aw_cond rfl (fun _ => ?_) (fun hb => absurd hb (by simp))
    refine WA ?_
    refine aret_1 [] _ rfl rfl rfl (by decide) (ZNK rfl) (fun _ => .nil) ⟨?_, rfl⟩
    rw [ffP, outs_any, h2, if_neg (by simp), if_pos (.inr (.inr (.inl g3)))]
  refine WR ?_
  first | refine ZS ?_ | (refine G1 rfl ?_; refine al_ef rfl (ef_call0 false (fun _ => nrm_v v w V fr ia ib ic hV (by omega) (by omega) (by omega)) rfl .fn rfl (by decide) (by kernel_rfl) rfl (fun _ => C0 rfl) (by simp)) ?_; rintro _ _ ⟨_, _, _, ⟨rfl, rfl⟩, hF, hH⟩; (try simp only [nsl, Nat.reduceAdd, Nat.reduceLT, Nat.reduceSub] at hF); (try simp only [nsl, Nat.reduceAdd, Nat.reduceLT, Nat.reduceSub] at hH); subst hF; subst hH) | skip
  refine WX1 ?_
  first | refine ZP (rd_eqla34 rfl rfl rfl) ?_ | refine ZS ?_
  refine WE ?_
  refine aw_cond rfl (fun hb => ?_) (fun hb => ?_)
  · refine WA ?_
    refine aret_1 [] _ rfl rfl rfl (by decide) (ZNK rfl) (fun _ => .nil) ⟨?_, rfl⟩
    rw [ffP, outs_any, h2, if_neg (by simp), if_pos (.inr (.inr (.inr ((zeroV _).2 (by simpa using hb)))))]
  · refine WA ?_
    refine aret_1 [] _ rfl rfl rfl (by decide) (ZNK rfl) (fun _ => .nil) ⟨?_, rfl⟩
    have hz : ¬ nrm V ⟨ia, ib, ic⟩ = ⟨0, 0, 0⟩ := fun h => by
      have := (zeroV _).1 h
      simp [this] at hb
    rw [ffP, outs_any, h2, if_neg (by simp), if_neg (by rintro (h | h | h | h) <;> contradiction)]
end Go.Proofs.YthanangkmjjbaaaGreatDoor
