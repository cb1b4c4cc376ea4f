/- Corners of paths; braking and what is reached, by value. -/
import Derived.Test.YtpbedckdnoogpaaGg
import Derived.Test.YtpbedckdnoogpaaMf
import Derived.Test.YtpbedckdnoogpaaMg
set_option linter.unusedSimpArgs false
set_option linter.unusedVariables false
namespace Go.Proofs.Ytpbedckdnoogpaa
open Go Go.RowKit
set_option maxRecDepth 100000
def crs (u v : Pt) : Int := u.x * v.y - u.y * v.x
def dts (u v : Pt) : Int := u.x * v.x + u.y * v.y
def cornF (u v : Pt) (n : Int) : Int := if crs u v = 0 ∧ 0 < dts u v then n else if max (crs u v) (-crs u v) ≤ dts u v then n / 2 else if 0 < dts u v then n / 4 else 0
abbrev Pt.near2 (q : Pt) : Prop := -200000 ≤ q.x ∧ q.x ≤ 200000 ∧ -200000 ≤ q.y ∧ q.y ≤ 200000
theorem prod_sym {a b : Int} (h1 : -200000 ≤ a) (h2 : a ≤ 200000) (h3 : -200000 ≤ b) (h4 : b ≤ 200000) : -40000000000 ≤ a * b ∧ a * b ≤ 40000000000 := by
  have k1 : 0 ≤ (200000 - a) * (200000 + b) := Int.mul_nonneg (by omega) (by omega)
  have k2 : 0 ≤ (200000 + a) * (200000 - b) := Int.mul_nonneg (by omega) (by omega)
  have k3 : 0 ≤ (200000 - a) * (200000 - b) := Int.mul_nonneg (by omega) (by omega)
  have k4 : 0 ≤ (200000 + a) * (200000 + b) := Int.mul_nonneg (by omega) (by omega)
  have e1 : (200000 - a) * (200000 + b) = 40000000000 + 200000 * b - 200000 * a - a * b := by grind
  have e2 : (200000 + a) * (200000 - b) = 40000000000 - 200000 * b + 200000 * a - a * b := by grind
  have e3 : (200000 - a) * (200000 - b) = 40000000000 - 200000 * b - 200000 * a + a * b := by grind
  have e4 : (200000 + a) * (200000 + b) = 40000000000 + 200000 * b + 200000 * a + a * b := by grind
  omega
theorem not_both {u v : Pt} (hu : ¬ (u.x = 0 ∧ u.y = 0)) (hv : ¬ (v.x = 0 ∧ v.y = 0)) (h1 : crs u v = 0) (h2 : dts u v = 0) : False := by
  have e : (u.x * u.x + u.y * u.y) * (v.x * v.x + v.y * v.y) = crs u v * crs u v + dts u v * dts u v := by unfold crs dts; grind
  rw [h1, h2] at e
  have z : ∀ x : Int, x * x = 0 → x = 0 := fun x h => (Int.mul_eq_zero.1 h).elim id id
  rcases Int.mul_eq_zero.1 (e.trans (by simp)) with k | k
  · have := sq_nn u.x; have := sq_nn u.y
    exact hu ⟨z _ (by omega), z _ (by omega)⟩
  · have := sq_nn v.x; have := sq_nn v.y
    exact hv ⟨z _ (by omega), z _ (by omega)⟩
theorem cornF_alt {u v : Pt} {n : Int} (hu : ¬ (u.x = 0 ∧ u.y = 0)) (hv : ¬ (v.x = 0 ∧ v.y = 0)) : cornF u v n = if dts u v ≤ 0 then 0 else if crs u v = 0 then n else if max (crs u v) (-crs u v) ≤ dts u v then n / 2 else n / 4 := by
  have := not_both hu hv
  unfold cornF
  generalize crs u v = c at *
  generalize dts u v = d at *
  have hnb : ¬ (c = 0 ∧ d = 0) := fun h => this h.1 h.2
  clear this hu hv
  repeat' split
  all_goals omega
theorem corner_a (u v : Pt) (n : Int) (hu : u.near2) (hv : v.near2) (hn : 1 ≤ n ∧ n ≤ 100000) : ACalls Try.prog 145 [.a (u.row.map .c), .a (v.row.map .c), .c (I n)] [] fun w H => w = .c (I (cornF u v n)) ∧ H = [] := by
  obtain ⟨a, b⟩ := u
  obtain ⟨c, d⟩ := v
  obtain ⟨u1, u2, u3, u4⟩ := hu
  obtain ⟨v1, v2, v3, v4⟩ := hv
  have p1 := prod_sym u1 u2 v3 v4
  have p2 := prod_sym u3 u4 v1 v2
  have p3 := prod_sym u1 u2 v1 v2
  have p4 := prod_sym u3 u4 v3 v4
  simp only [cornF, crs, dts] at *
  refine acalls_of (N := 51) Try.func145 rfl rfl (by simp) fun E hE => ?_
  by_cases h1 : a * d - b * c = 0 <;> by_cases h2 : 0 < a * c + b * d
  all_goals
    repeat' (first
      | (with_reducible refine aw_seq ?_) | (with_reducible refine aseq_n ?_) | (with_reducible refine aseq_r ?_) | (with_reducible refine ablk_n ?_) | (with_reducible refine ablk_r ?_) | (with_reducible refine ablk_e ?_) | (with_reducible refine ablk_o rfl ?_) | (with_reducible refine aseq_e ?_) | (with_reducible refine aw_skip ?_) | (with_reducible refine aw_block ?_) | (with_reducible refine aw_ret ?_) | (with_reducible refine aw_exit ?_)
      | refine aw_cond_t rfl ?_ | refine aw_cond_f rfl ?_ | refine aw_if_t rfl (by assumption) ?_ | refine aw_if_f rfl (by assumption) ?_ | refine aw_if rfl (fun _ => ?_) (fun _ => ?_) | refine aw_cond rfl (fun _ => ?_) (fun _ => ?_)
      | (refine aw_regionT (id := 1) [(0, none), (1, none), (2, none), (3, none), (4, none), (5, none), (6, none), (7, none), (8, none), (9, none), (10, none), (11, none), (12, none), (13, none), (14, none), (15, none), (16, none), (17, none), (18, none), (19, none), (20, none), (21, none), (22, none), (23, none)] hMixed (by kernel_rfl) ?_
         refine WQ ?_)
      | (refine aw_region (id := 4) ?_
         refine WO ?_
         refine al_ef rfl (ef_call0 false (fun _ => abs1_a _ (by omega)) rfl .fn rfl (by decide) (by kernel_rfl) rfl (fun _ => C0 rfl) (by simp)) ?_
         rintro _ _ ⟨_, _, _, ⟨rfl, rfl⟩, hF, hH⟩
         (try simp only [nsl, Nat.reduceAdd, Nat.reduceLT, Nat.reduceSub] at hF); (try simp only [nsl, Nat.reduceAdd, Nat.reduceLT, Nat.reduceSub] at hH); subst hF; subst hH
         refine WE ?_)
      | (refine aw_region ?_; refine WE ?_))
  all_goals (refine aret_1 [] _ rfl rfl rfl (by decide) (ZNK rfl) (fun _ => .nil) ⟨congrArg (fun z => AV.c (I z)) ?_, rfl⟩)
  all_goals (repeat' split)
  all_goals omega
def cornL (d : List Pt) (n : Int) : Nat → List Int
  | 0 => []
  | k + 1 => cornL d n k ++ (match d[k]?, d[k + 1]? with
    | some u, some v => [cornF u v n]
    | _, _ => [])
theorem cornL_next {d : List Pt} {n : Int} {k : Nat} {a b : Pt} (ha : d[k]? = some a) (hb : d[k + 1]? = some b) : cornL d n (k + 1) = cornL d n k ++ [cornF a b n] := by
  rw [cornL, ha, hb]
theorem cornL_len (d : List Pt) (n : Int) : ∀ k, (cornL d n k).length ≤ k
  | 0 => by simp [cornL]
  | k + 1 => by
    have := cornL_len d n k
    rw [cornL, List.length_append]
    split
    · simp; omega
    · simp; omega
def cornD (l : List Pt) (b : Bool) (n : Int) : List Int := cornL (difs l b) n ((difs l b).length - 1)
theorem corners_a (l : List Pt) (v : Value) (b : Bool) (n : Int) : ACalls Try.prog 71 [pth v l b, .c (I n)] [] fun u H => ∃ v', u = .t [.c (ints_r v' (if movF l b n = 0 then cornD l b n else [])), .c (I (movF l b n))] ∧ H = [] := by
  refine acalls_of (N := 40) Try.func71 rfl rfl (by simp) fun E hE => ?_
  refine WA ?_
  refine WR ?_
  refine al_ef rfl (ef_call0 false (fun _ => moves_a l v b n) rfl .fn rfl (by decide) (by kernel_rfl) rfl (fun _ => C0 rfl) (by simp)) ?_
  rintro _ _ ⟨_, _, _, ⟨vd, rfl, rfl⟩, hF, hH⟩
  (try simp only [nsl, Nat.reduceAdd, Nat.reduceLT, Nat.reduceSub] at hF); (try simp only [nsl, Nat.reduceAdd, Nat.reduceLT, Nat.reduceSub] at hH); subst hF; subst hH
  refine WE ?_
  refine WA ?_
  refine aw_if rfl (fun h0 => ?_) (fun h0 => ?_)
  · refine WA ?_
    exact aret_2 [] _ rfl rfl rfl rfl rfl (by decide) (ZNK rfl) (fun _ => .nil) ⟨_, by rw [if_neg h0]; rfl, rfl⟩
  have hm : movF l b n = 0 := by omega
  rw [hm]
  simp only [if_true]
  obtain ⟨hp, hdl⟩ := movF_ok hm
  obtain ⟨hpf, hn⟩ := pathF_ok hp
  obtain ⟨d1, d2⟩ := difs_ok hpf
  have hld : cornD l b n = cornL (difs l b) n ((difs l b).length - 1) := rfl
  rw [hld]
  obtain ⟨D, hD⟩ : ∃ D, D = difs l b := ⟨_, rfl⟩
  rw [← hD] at d1 d2 hdl ⊢
  have e2 : (D.map Pt.row).length = D.length := by simp
  refine ZZ ?_
  refine WA ?_
  refine WA ?_
  refine aw_loopw (fun m F H => ∃ (k c : Nat) (o : List Int), m + k + 1 = D.length ∧ o = cornL D n k ∧ F = [(1, .c (I n)), (6, .c (pts_r vd D)), (8, .o 0 0 o.length c), (9, .c (I (k + 1 : Nat)))] ∧ H = [.arr 3 1 c (o.map fun z => [I z])]) ?_ ?_
  · refine wk_of [none] (fun _ => [(1, .c (I n)), (6, .c (pts_r vd D)), (8, .o 0 0 ([] : List Int).length 0), (9, .c (I (0 + 1 : Nat)))]) (fun _ => [.arr 3 1 0 (([] : List Int).map fun z => [I z])]) (by decide) (ZNL hE) ZCF ZCH (fun _ => ?_)
    exact ⟨D.length - 1, 0, 0, [], by omega, rfl, rfl, rfl⟩
  rintro m F H ⟨k, c, o, hk, ho, rfl, rfl⟩
  have hol := cornL_len D n k
  rw [← ho] at hol
  refine WA ?_
  refine aw_if rfl (fun hlt => ?_) (fun hge => ?_)
  · obtain ⟨a, ha⟩ : ∃ x, D[k]? = some x := ⟨_, List.getElem?_eq_getElem (by omega)⟩
    obtain ⟨b', hb⟩ : ∃ x, D[k + 1]? = some x := ⟨_, List.getElem?_eq_getElem (by omega)⟩
    have hra : (D.map Pt.row)[k]? = some [I a.x, I a.y] := by rw [List.getElem?_map, ha]; rfl
    have hrb : (D.map Pt.row)[k + 1]? = some [I b'.x, I b'.y] := by rw [List.getElem?_map, hb]; rfl
    refine ZZ ?_
    refine aw_regionT [(0, none), (1, none), (2, none), (3, none), (4, none), (5, none), (6, none), (7, none), (8, none), (9, none), (10, none), (11, some [0]), (12, some [0]), (13, some []), (14, none)] hMixed (by kernel_rfl) ?_
    iterate 3 refine WX2 ?_
    refine ZT rfl (rd_subz (z := (k : Int)) rfl rfl rfl (by omega) (by omega)) ?_
    refine WP ?_
    refine at_ef rfl rfl (ef_call0 false (fun _ => corner_a a b' n (d2 a (List.mem_of_getElem? ha)).1 (d2 b' (List.mem_of_getElem? hb)).1 hn) rfl .fn rfl (by decide) (by kernel_rfl) rfl (fun _ => C0 rfl) (by simp)) ?_
    rintro _ _ ⟨_, _, _, ⟨rfl, rfl⟩, hF, hH⟩
    (try simp only [nsl, Nat.reduceAdd, Nat.reduceLT, Nat.reduceSub] at hF); (try simp only [nsl, Nat.reduceAdd, Nat.reduceLT, Nat.reduceSub] at hH); subst hF; subst hH
    refine ⟨ag_cons (by first | exact ag_rd rfl rfl rfl (rd_move rfl rfl) rfl) (ag_none), ?_⟩
    refine WP ?_
    refine at_ef rfl rfl (Zapp (KA (t := 22) rfl)) ?_
    rintro _ _ ⟨_, cc, hcc, rfl, rfl⟩
    refine ⟨ag_none, ?_⟩
    refine WQ ?_
    refine WA ?_
    refine wk_of [some 0] (fun _ => [(1, .c (I n)), (6, .c (pts_r vd D)), (8, .o 0 0 (o ++ [cornF a b' n]).length cc), (9, .c (I (k + 1 + 1 : Nat)))]) (fun _ => _) (by decide) (ZNL hE) ZCF ZCH (fun _ => ?_)
    exact ⟨m - 1, by omega, k + 1, cc, o ++ [cornF a b' n], by omega, by rw [cornL_next ha hb, ho], rfl, by rw [List.map_append]; rfl⟩
  obtain rfl : k = D.length - 1 := by omega
  subst ho
  refine ZZ ?_
  refine WA ?_
  exact aret_f2 [] [] rfl rfl rfl rfl rfl rfl (by rw [List.drop_zero, List.take_of_length_le (by simp)]) (by simp) (by decide) (by decide) (ZNK rfl) (fun _ => .nil) (fun v' => ⟨v', rfl, rfl⟩)
theorem cornersof_a (l : List Pt) (v : Value) (b : Bool) (n : Int) (hf : ptsF l b = 0) (hn : 1 ≤ n ∧ n ≤ 100000) : ACalls Try.prog 77 [pth v l b, .c (I n)] [] fun u H => ∃ v', u = .t [.c (ints_r v' (cornD l b n)), .c (I (if (difs l b).length = 0 then 8 else 0))] ∧ H = [] := by
  obtain ⟨d1, d2⟩ := difs_ok hf
  refine acalls_of (N := 77) Try.func77 rfl rfl (by simp) fun E hE => ?_
  have hld : cornD l b n = cornL (difs l b) n ((difs l b).length - 1) := rfl
  rw [hld]
  refine WA ?_
  refine WR ?_
  refine al_ef rfl (ef_call0 false (fun _ => vectors_a l v b hf) rfl .fn rfl (by decide) (by kernel_rfl) rfl (fun _ => C0 rfl) (by simp)) ?_
  rintro _ _ ⟨_, _, _, ⟨vd, rfl, rfl⟩, hF, hH⟩
  (try simp only [nsl, Nat.reduceAdd, Nat.reduceLT, Nat.reduceSub] at hF); (try simp only [nsl, Nat.reduceAdd, Nat.reduceLT, Nat.reduceSub] at hH); subst hF; subst hH
  refine WE ?_
  obtain ⟨D, hD⟩ : ∃ D, D = difs l b := ⟨_, rfl⟩
  rw [← hD] at d1 d2 ⊢
  have e2 : (D.map Pt.row).length = D.length := by simp
  refine WA ?_
  refine aw_if rfl (fun h0 => ?_) (fun h0 => ?_)
  · have hD0 : D = [] := List.eq_nil_of_length_eq_zero (by omega)
    subst hD0
    refine WA ?_
    exact aret_2 [] _ rfl rfl rfl rfl rfl (by decide) (ZNK rfl) (fun _ => .nil) ⟨_, rfl, rfl⟩
  have hdl : 1 ≤ D.length := by omega
  rw [if_neg (by omega)]
  refine ZZ ?_
  refine WA ?_
  refine WA ?_
  refine aw_loopw (fun m F H => ∃ (k c : Nat) (o : List Int), m + k + 1 = D.length ∧ o = cornL D n k ∧ F = [(1, .c (I n)), (6, .c (pts_r vd D)), (7, .o 0 0 o.length c), (8, .c (I (k + 1 : Nat)))] ∧ H = [.arr 3 1 c (o.map fun z => [I z])]) ?_ ?_
  · refine wk_of [none] (fun _ => [(1, .c (I n)), (6, .c (pts_r vd D)), (7, .o 0 0 ([] : List Int).length 0), (8, .c (I (0 + 1 : Nat)))]) (fun _ => [.arr 3 1 0 (([] : List Int).map fun z => [I z])]) (by decide) (ZNL hE) ZCF ZCH (fun _ => ?_)
    exact ⟨D.length - 1, 0, 0, [], by omega, rfl, rfl, rfl⟩
  rintro m F H ⟨k, c, o, hk, ho, rfl, rfl⟩
  have hol := cornL_len D n k
  rw [← ho] at hol
  refine WA ?_
  refine aw_if rfl (fun hlt => ?_) (fun hge => ?_)
  · obtain ⟨a, ha⟩ : ∃ x, D[k]? = some x := ⟨_, List.getElem?_eq_getElem (by omega)⟩
    obtain ⟨b', hb⟩ : ∃ x, D[k + 1]? = some x := ⟨_, List.getElem?_eq_getElem (by omega)⟩
    have hra : (D.map Pt.row)[k]? = some [I a.x, I a.y] := by rw [List.getElem?_map, ha]; rfl
    have hrb : (D.map Pt.row)[k + 1]? = some [I b'.x, I b'.y] := by rw [List.getElem?_map, hb]; rfl
    obtain ⟨⟨u1, u2, u3, u4⟩, u5⟩ := d2 a (List.mem_of_getElem? ha)
    obtain ⟨⟨v1, v2, v3, v4⟩, v5⟩ := d2 b' (List.mem_of_getElem? hb)
    have hcf : cornF a b' n = if a.x * b'.x + a.y * b'.y ≤ 0 then 0 else if a.x * b'.y - a.y * b'.x = 0 then n else if max (a.x * b'.y - a.y * b'.x) (-(a.x * b'.y - a.y * b'.x)) ≤ a.x * b'.x + a.y * b'.y then n / 2 else n / 4 := cornF_alt u5 v5
    have p1 := prod_sym u1 u2 v3 v4
    have p2 := prod_sym u3 u4 v1 v2
    have p3 := prod_sym u1 u2 v1 v2
    have p4 := prod_sym u3 u4 v3 v4
    refine ZZ ?_
    refine aw_cut (fun F H => F = [(1, .c (I n)), (6, .c (pts_r vd D)), (7, .o 0 0 o.length c), (8, .c (I (k + 1 : Nat))), (9, .p 1 0 0), (10, .p 2 0 0)] ∧ H = [.arr 3 1 c (o.map fun z => [I z]), .box (a.row.map .c), .box (b'.row.map .c)]) ?_ ?_ wk_aw
    · refine ZZ ?_
      refine aw_regionM [[(0, none), (1, none), (2, none), (3, none), (4, none), (5, none), (6, none), (7, none), (8, none), (9, some [0, 1, 2, 3, 4, 5, 6, 7, 8]), (10, some [0, 1, 2, 3, 4, 5, 6, 7, 8]), (11, some [5, 6, 7, 8]), (12, some [])], [(0, none), (1, none), (2, none), (3, none), (4, none), (5, none), (6, none), (7, none), (8, none), (10, some [0, 1, 2, 3, 4, 5, 6, 7, 8]), (9, some [0, 1, 2, 3, 4, 5, 6, 7, 8]), (11, some [5, 6, 7, 8]), (12, some [])]] hMixed (by kernel_rfl) ?_
      focus
        refine ZM (i := 0) (ps' := [[(1, none), (2, none), (3, none), (4, none), (5, none), (6, none), (7, none), (8, none), (9, some [0, 1, 2, 3, 4, 5, 6, 7, 8]), (10, some [0, 1, 2, 3, 4, 5, 6, 7, 8]), (11, some [5, 6, 7, 8]), (12, some [])], [(1, none), (2, none), (3, none), (4, none), (5, none), (6, none), (7, none), (8, none), (10, some [0, 1, 2, 3, 4, 5, 6, 7, 8]), (9, some [0, 1, 2, 3, 4, 5, 6, 7, 8]), (11, some [5, 6, 7, 8]), (12, some [])]]) (by rfl) (by rfl) rfl (rd_move rfl rfl) ?_
        refine ZM (i := 1) (ps' := [[(2, none), (3, none), (4, none), (5, none), (6, none), (7, none), (8, none), (9, some [0, 1, 2, 3, 4, 5, 6, 7, 8]), (10, some [0, 1, 2, 3, 4, 5, 6, 7, 8]), (11, some [5, 6, 7, 8]), (12, some [])], [(2, none), (3, none), (4, none), (5, none), (6, none), (7, none), (8, none), (10, some [0, 1, 2, 3, 4, 5, 6, 7, 8]), (9, some [0, 1, 2, 3, 4, 5, 6, 7, 8]), (11, some [5, 6, 7, 8]), (12, some [])]]) (by rfl) (by rfl) rfl (rd_move rfl rfl) ?_
        refine ZM (i := 2) (ps' := [[(3, none), (4, none), (5, none), (6, none), (7, none), (8, none), (9, some [0, 1, 2, 3, 4, 5, 6, 7, 8]), (10, some [0, 1, 2, 3, 4, 5, 6, 7, 8]), (11, some [5, 6, 7, 8]), (12, some [])], [(3, none), (4, none), (5, none), (6, none), (7, none), (8, none), (10, some [0, 1, 2, 3, 4, 5, 6, 7, 8]), (9, some [0, 1, 2, 3, 4, 5, 6, 7, 8]), (11, some [5, 6, 7, 8]), (12, some [])]]) (by rfl) (by rfl) rfl (rd_subz (z := (k : Int)) rfl rfl rfl (by omega) (by omega)) ?_
        first | refine ZM (i := 3) (ps' := [[(4, none), (5, none), (6, none), (7, none), (8, none), (9, some [0, 1, 2, 3, 4, 5, 6, 7, 8]), (10, some [0, 1, 2, 3, 4, 5, 6, 7, 8]), (11, some [5, 6, 7, 8]), (12, some [])], [(4, none), (5, none), (6, none), (7, none), (8, none), (10, some [0, 1, 2, 3, 4, 5, 6, 7, 8]), (9, some [0, 1, 2, 3, 4, 5, 6, 7, 8]), (11, some [5, 6, 7, 8]), (12, some [])]]) (by rfl) (by rfl) rfl (ZI (KE (t := 94) rfl)) ?_ | refine ZM (i := 3) (ps' := [[(4, none), (5, none), (6, none), (7, none), (8, none), (9, some [0, 1, 2, 3, 4, 5, 6, 7, 8]), (10, some [0, 1, 2, 3, 4, 5, 6, 7, 8]), (11, some [5, 6, 7, 8]), (12, some [])], [(4, none), (5, none), (6, none), (7, none), (8, none), (10, some [0, 1, 2, 3, 4, 5, 6, 7, 8]), (9, some [0, 1, 2, 3, 4, 5, 6, 7, 8]), (11, some [5, 6, 7, 8]), (12, some [])]]) (by rfl) (by rfl) rfl (ZJ (KE (t := 94) rfl)) ?_
        refine ZM (i := 4) (ps' := [[(5, none), (6, none), (7, none), (8, none), (9, some [0, 1, 2, 3, 4, 5, 6, 7, 8]), (10, some [0, 1, 2, 3, 4, 5, 6, 7, 8]), (11, some [5, 6, 7, 8]), (12, some [])], [(5, none), (6, none), (7, none), (8, none), (10, some [0, 1, 2, 3, 4, 5, 6, 7, 8]), (9, some [0, 1, 2, 3, 4, 5, 6, 7, 8]), (11, some [5, 6, 7, 8]), (12, some [])]]) (by rfl) (by rfl) rfl (ZK (KK (t := 145) rfl)) ?_
        refine ZM (i := 5) (ps' := [[(6, none), (7, none), (8, none), (9, some [0, 1, 2, 3, 4, 5, 6, 7, 8]), (10, some [0, 1, 2, 3, 4, 5, 6, 7, 8]), (11, some [5, 6, 7, 8]), (12, some [])], [(6, none), (7, none), (8, none), (10, some [0, 1, 2, 3, 4, 5, 6, 7, 8]), (9, some [0, 1, 2, 3, 4, 5, 6, 7, 8]), (11, some [5, 6, 7, 8]), (12, some [])]]) (by rfl) (by rfl) rfl (rd_move rfl rfl) ?_
        refine ZM (i := 6) (ps' := [[(7, none), (8, none), (9, some [0, 1, 2, 3, 4, 5, 6, 7, 8]), (10, some [0, 1, 2, 3, 4, 5, 6, 7, 8]), (11, some [5, 6, 7, 8]), (12, some [])], [(7, none), (8, none), (10, some [0, 1, 2, 3, 4, 5, 6, 7, 8]), (9, some [0, 1, 2, 3, 4, 5, 6, 7, 8]), (11, some [5, 6, 7, 8]), (12, some [])]]) (by rfl) (by rfl) rfl (rd_move rfl rfl) ?_
        first | refine ZM (i := 7) (ps' := [[(8, none), (9, some [0, 1, 2, 3, 4, 5, 6, 7, 8]), (10, some [0, 1, 2, 3, 4, 5, 6, 7, 8]), (11, some [5, 6, 7, 8]), (12, some [])], [(8, none), (10, some [0, 1, 2, 3, 4, 5, 6, 7, 8]), (9, some [0, 1, 2, 3, 4, 5, 6, 7, 8]), (11, some [5, 6, 7, 8]), (12, some [])]]) (by rfl) (by rfl) rfl (ZI (KE (t := 94) rfl)) ?_ | refine ZM (i := 7) (ps' := [[(8, none), (9, some [0, 1, 2, 3, 4, 5, 6, 7, 8]), (10, some [0, 1, 2, 3, 4, 5, 6, 7, 8]), (11, some [5, 6, 7, 8]), (12, some [])], [(8, none), (10, some [0, 1, 2, 3, 4, 5, 6, 7, 8]), (9, some [0, 1, 2, 3, 4, 5, 6, 7, 8]), (11, some [5, 6, 7, 8]), (12, some [])]]) (by rfl) (by rfl) rfl (ZJ (KE (t := 94) rfl)) ?_
        refine ZM (i := 8) (ps' := [[(9, some [0, 1, 2, 3, 4, 5, 6, 7, 8]), (10, some [0, 1, 2, 3, 4, 5, 6, 7, 8]), (11, some [5, 6, 7, 8]), (12, some [])], [(10, some [0, 1, 2, 3, 4, 5, 6, 7, 8]), (9, some [0, 1, 2, 3, 4, 5, 6, 7, 8]), (11, some [5, 6, 7, 8]), (12, some [])]]) (by rfl) (by rfl) rfl (ZK (KK (t := 145) rfl)) ?_
        refine am_two (ps1 := [[(10, some [0, 1, 2, 3, 4, 5, 6, 7, 8]), (11, some [5, 6, 7, 8]), (12, some [])]]) (ps2 := [[(9, some [0, 1, 2, 3, 4, 5, 6, 7, 8]), (11, some [5, 6, 7, 8]), (12, some [])]]) (by rfl) (by rfl) (by rfl) ?_ ?_
        rotate_left
        refine ZG (i := 10) (ps' := [[(9, some [0, 1, 2, 3, 4, 5, 6, 7, 8]), (11, some [5, 6, 7, 8]), (12, some [])]]) (by rfl) (by rfl) rfl (Zall (KZ (t := 145) rfl)) (ag_cons (by first | exact ag_rd rfl rfl rfl (rd_move rfl rfl) rfl) (ag_cons (by first | exact ag_rd rfl rfl rfl (rd_move rfl rfl) rfl) (ag_cons (by first | exact ag_rd rfl rfl rfl (rd_subz (z := (k : Int)) rfl rfl rfl (by omega) (by omega)) rfl) (ag_cons (by first | exact ag_rd rfl rfl rfl (ZI (KE (t := 94) rfl)) rfl | exact ag_rd rfl rfl rfl (ZJ (KE (t := 94) rfl)) rfl | exact ag_rd rfl rfl rfl (rd_indexj rfl (KE (t := 94) rfl) rfl rfl rfl (by first | rfl | omega) (by omega) (by omega)) rfl) (ag_cons (by first | exact ag_rd rfl rfl rfl (ZK (KK (t := 145) rfl)) rfl) (ag_cons (by first | exact ag_rd rfl rfl rfl (rd_move rfl rfl) rfl) (ag_cons (by first | exact ag_rd rfl rfl rfl (rd_move rfl rfl) rfl) (ag_cons (by first | exact ag_rd rfl rfl rfl (ZI (KE (t := 94) rfl)) rfl | exact ag_rd rfl rfl rfl (ZJ (KE (t := 94) rfl)) rfl | exact ag_rd rfl rfl rfl (rd_indexj rfl (KE (t := 94) rfl) rfl rfl rfl (by first | rfl | omega) (by omega) (by omega)) rfl) (ag_cons (by first | exact ag_rd rfl rfl rfl (ZK (KK (t := 145) rfl)) rfl) (ag_none)))))))))) ?_
        refine ZG (i := 9) (ps' := [[(11, some [5, 6, 7, 8]), (12, some [])]]) (by rfl) (by rfl) rfl (Zall (KZ (t := 145) rfl)) (ag_cons (by first | exact ag_rd rfl rfl rfl (rd_move rfl rfl) rfl) (ag_cons (by first | exact ag_rd rfl rfl rfl (rd_move rfl rfl) rfl) (ag_cons (by first | exact ag_rd rfl rfl rfl (rd_subz (z := (k : Int)) rfl rfl rfl (by omega) (by omega)) rfl) (ag_cons (by first | exact ag_rd rfl rfl rfl (ZI (KE (t := 94) rfl)) rfl | exact ag_rd rfl rfl rfl (ZJ (KE (t := 94) rfl)) rfl | exact ag_rd rfl rfl rfl (rd_indexj rfl (KE (t := 94) rfl) rfl rfl rfl (by first | rfl | omega) (by omega) (by omega)) rfl) (ag_cons (by first | exact ag_rd rfl rfl rfl (ZK (KK (t := 145) rfl)) rfl) (ag_cons (by first | exact ag_rd rfl rfl rfl (rd_move rfl rfl) rfl) (ag_cons (by first | exact ag_rd rfl rfl rfl (rd_move rfl rfl) rfl) (ag_cons (by first | exact ag_rd rfl rfl rfl (ZI (KE (t := 94) rfl)) rfl | exact ag_rd rfl rfl rfl (ZJ (KE (t := 94) rfl)) rfl | exact ag_rd rfl rfl rfl (rd_indexj rfl (KE (t := 94) rfl) rfl rfl rfl (by first | rfl | omega) (by omega) (by omega)) rfl) (ag_cons (by first | exact ag_rd rfl rfl rfl (ZK (KK (t := 145) rfl)) rfl) (ag_none)))))))))) ?_
        first | refine ZG (i := 11) (ps' := [[(12, some [])]]) (by rfl) (by rfl) rfl (Zsto (KS (t := 145) rfl)) (ag_cons (by first | exact ag_rd rfl rfl rfl (rd_move rfl rfl) rfl) (ag_cons (by first | exact ag_rd rfl rfl rfl (rd_move rfl rfl) rfl) (ag_cons (by first | exact ag_rd rfl rfl rfl (ZI (KE (t := 94) rfl)) rfl | exact ag_rd rfl rfl rfl (ZJ (KE (t := 94) rfl)) rfl | exact ag_rd rfl rfl rfl (rd_indexj rfl (KE (t := 94) rfl) rfl rfl rfl (by first | rfl | omega) (by omega) (by omega)) rfl) (ag_cons (by first | exact ag_rd rfl rfl rfl (ZK (KK (t := 145) rfl)) rfl) (ag_none))))) ?_ | refine ZG (i := 11) (ps' := [[(12, some [])]]) (by rfl) (by rfl) rfl (Zstr (KS (t := 145) rfl)) (ag_cons (by first | exact ag_rd rfl rfl rfl (rd_move rfl rfl) rfl) (ag_cons (by first | exact ag_rd rfl rfl rfl (rd_move rfl rfl) rfl) (ag_cons (by first | exact ag_rd rfl rfl rfl (ZI (KE (t := 94) rfl)) rfl | exact ag_rd rfl rfl rfl (ZJ (KE (t := 94) rfl)) rfl | exact ag_rd rfl rfl rfl (rd_indexj rfl (KE (t := 94) rfl) rfl rfl rfl (by first | rfl | omega) (by omega) (by omega)) rfl) (ag_cons (by first | exact ag_rd rfl rfl rfl (ZK (KK (t := 145) rfl)) rfl) (ag_none))))) ?_
        first | refine ZG (i := 12) (ps' := [[]]) (by rfl) (by rfl) rfl (Zsto (KS (t := 145) rfl)) (ag_none) ?_ | refine ZG (i := 12) (ps' := [[]]) (by rfl) (by rfl) rfl (Zstr (KS (t := 145) rfl)) (ag_none) ?_
        refine am_nil ?_
        rotate_right
        refine ZG (i := 9) (ps' := [[(10, some [0, 1, 2, 3, 4, 5, 6, 7, 8]), (11, some [5, 6, 7, 8]), (12, some [])]]) (by rfl) (by rfl) rfl (Zall (KZ (t := 145) rfl)) (ag_cons (by first | exact ag_rd rfl rfl rfl (rd_move rfl rfl) rfl) (ag_cons (by first | exact ag_rd rfl rfl rfl (rd_move rfl rfl) rfl) (ag_cons (by first | exact ag_rd rfl rfl rfl (rd_subz (z := (k : Int)) rfl rfl rfl (by omega) (by omega)) rfl) (ag_cons (by first | exact ag_rd rfl rfl rfl (ZI (KE (t := 94) rfl)) rfl | exact ag_rd rfl rfl rfl (ZJ (KE (t := 94) rfl)) rfl | exact ag_rd rfl rfl rfl (rd_indexj rfl (KE (t := 94) rfl) rfl rfl rfl (by first | rfl | omega) (by omega) (by omega)) rfl) (ag_cons (by first | exact ag_rd rfl rfl rfl (ZK (KK (t := 145) rfl)) rfl) (ag_cons (by first | exact ag_rd rfl rfl rfl (rd_move rfl rfl) rfl) (ag_cons (by first | exact ag_rd rfl rfl rfl (rd_move rfl rfl) rfl) (ag_cons (by first | exact ag_rd rfl rfl rfl (ZI (KE (t := 94) rfl)) rfl | exact ag_rd rfl rfl rfl (ZJ (KE (t := 94) rfl)) rfl | exact ag_rd rfl rfl rfl (rd_indexj rfl (KE (t := 94) rfl) rfl rfl rfl (by first | rfl | omega) (by omega) (by omega)) rfl) (ag_cons (by first | exact ag_rd rfl rfl rfl (ZK (KK (t := 145) rfl)) rfl) (ag_none)))))))))) ?_
        refine ZG (i := 10) (ps' := [[(11, some [5, 6, 7, 8]), (12, some [])]]) (by rfl) (by rfl) rfl (Zall (KZ (t := 145) rfl)) (ag_cons (by first | exact ag_rd rfl rfl rfl (rd_move rfl rfl) rfl) (ag_cons (by first | exact ag_rd rfl rfl rfl (rd_move rfl rfl) rfl) (ag_cons (by first | exact ag_rd rfl rfl rfl (rd_subz (z := (k : Int)) rfl rfl rfl (by omega) (by omega)) rfl) (ag_cons (by first | exact ag_rd rfl rfl rfl (ZI (KE (t := 94) rfl)) rfl | exact ag_rd rfl rfl rfl (ZJ (KE (t := 94) rfl)) rfl | exact ag_rd rfl rfl rfl (rd_indexj rfl (KE (t := 94) rfl) rfl rfl rfl (by first | rfl | omega) (by omega) (by omega)) rfl) (ag_cons (by first | exact ag_rd rfl rfl rfl (ZK (KK (t := 145) rfl)) rfl) (ag_cons (by first | exact ag_rd rfl rfl rfl (rd_move rfl rfl) rfl) (ag_cons (by first | exact ag_rd rfl rfl rfl (rd_move rfl rfl) rfl) (ag_cons (by first | exact ag_rd rfl rfl rfl (ZI (KE (t := 94) rfl)) rfl | exact ag_rd rfl rfl rfl (ZJ (KE (t := 94) rfl)) rfl | exact ag_rd rfl rfl rfl (rd_indexj rfl (KE (t := 94) rfl) rfl rfl rfl (by first | rfl | omega) (by omega) (by omega)) rfl) (ag_cons (by first | exact ag_rd rfl rfl rfl (ZK (KK (t := 145) rfl)) rfl) (ag_none)))))))))) ?_
        first | refine ZG (i := 11) (ps' := [[(12, some [])]]) (by rfl) (by rfl) rfl (Zsto (KS (t := 145) rfl)) (ag_cons (by first | exact ag_rd rfl rfl rfl (rd_move rfl rfl) rfl) (ag_cons (by first | exact ag_rd rfl rfl rfl (rd_move rfl rfl) rfl) (ag_cons (by first | exact ag_rd rfl rfl rfl (ZI (KE (t := 94) rfl)) rfl | exact ag_rd rfl rfl rfl (ZJ (KE (t := 94) rfl)) rfl | exact ag_rd rfl rfl rfl (rd_indexj rfl (KE (t := 94) rfl) rfl rfl rfl (by first | rfl | omega) (by omega) (by omega)) rfl) (ag_cons (by first | exact ag_rd rfl rfl rfl (ZK (KK (t := 145) rfl)) rfl) (ag_none))))) ?_ | refine ZG (i := 11) (ps' := [[(12, some [])]]) (by rfl) (by rfl) rfl (Zstr (KS (t := 145) rfl)) (ag_cons (by first | exact ag_rd rfl rfl rfl (rd_move rfl rfl) rfl) (ag_cons (by first | exact ag_rd rfl rfl rfl (rd_move rfl rfl) rfl) (ag_cons (by first | exact ag_rd rfl rfl rfl (ZI (KE (t := 94) rfl)) rfl | exact ag_rd rfl rfl rfl (ZJ (KE (t := 94) rfl)) rfl | exact ag_rd rfl rfl rfl (rd_indexj rfl (KE (t := 94) rfl) rfl rfl rfl (by first | rfl | omega) (by omega) (by omega)) rfl) (ag_cons (by first | exact ag_rd rfl rfl rfl (ZK (KK (t := 145) rfl)) rfl) (ag_none))))) ?_
        first | refine ZG (i := 12) (ps' := [[]]) (by rfl) (by rfl) rfl (Zsto (KS (t := 145) rfl)) (ag_none) ?_ | refine ZG (i := 12) (ps' := [[]]) (by rfl) (by rfl) rfl (Zstr (KS (t := 145) rfl)) (ag_none) ?_
        refine am_nil ?_
      all_goals (refine ZZ ?_)
      all_goals first
        | exact wk_of [some 0, some 1, some 2] (fun _ => [(1, .c (I n)), (6, .c (pts_r vd D)), (7, .o 0 0 o.length c), (8, .c (I (k + 1 : Nat))), (9, .p 1 0 0), (10, .p 2 0 0)]) (fun _ => [.arr 3 1 c (o.map fun z => [I z]), .box (a.row.map .c), .box (b'.row.map .c)]) (by decide) (ZNL hE) ZCF ZCH (fun _ => ⟨rfl, rfl⟩)
        | exact wk_of [some 0, some 2, some 1] (fun _ => [(1, .c (I n)), (6, .c (pts_r vd D)), (7, .o 0 0 o.length c), (8, .c (I (k + 1 : Nat))), (9, .p 1 0 0), (10, .p 2 0 0)]) (fun _ => [.arr 3 1 c (o.map fun z => [I z]), .box (a.row.map .c), .box (b'.row.map .c)]) (by decide) (ZNL hE) ZCF ZCH (fun _ => ⟨rfl, rfl⟩)
    rintro F H ⟨rfl, rfl⟩
    refine ZZ ?_
    refine aw_regionT [(0, none), (1, none), (2, none), (3, none), (4, none), (5, none), (6, none), (7, none), (8, none), (9, none), (10, none), (11, none), (12, none), (13, none), (14, none), (15, none), (16, none), (17, none), (18, none), (19, none), (20, none), (21, none), (22, none), (23, none)] hMixed (by kernel_rfl) ?_
    refine WQ ?_
    by_cases h1 : a.x * b'.x + a.y * b'.y ≤ 0
    · rw [if_pos h1] at hcf
      refine WW ?_
      refine al_ef rfl (Zapp (KA (t := 22) rfl)) ?_
      rintro _ _ ⟨_, cc, hcc, rfl, rfl⟩
      refine WE ?_
      refine WA ?_
      refine wk_of [some 0] (fun _ => [(1, .c (I n)), (6, .c (pts_r vd D)), (7, .o 0 0 (o ++ [cornF a b' n]).length cc), (8, .c (I (k + 1 + 1 : Nat)))]) (fun _ => _) (by decide) (ZNL hE) ZCF ZCH (fun _ => ?_)
      exact ⟨m - 1, by omega, k + 1, cc, o ++ [cornF a b' n], by omega, by rw [cornL_next ha hb, ho], rfl, by rw [List.map_append, hcf]; rfl⟩
    · rw [if_neg h1] at hcf
      by_cases h2 : a.x * b'.y - a.y * b'.x = 0
      · rw [if_pos h2] at hcf
        refine WW ?_
        refine al_ef rfl (Zapp (KA (t := 22) rfl)) ?_
        rintro _ _ ⟨_, cc, hcc, rfl, rfl⟩
        refine WE ?_
        refine WA ?_
        refine wk_of [some 0] (fun _ => [(1, .c (I n)), (6, .c (pts_r vd D)), (7, .o 0 0 (o ++ [cornF a b' n]).length cc), (8, .c (I (k + 1 + 1 : Nat)))]) (fun _ => _) (by decide) (ZNL hE) ZCF ZCH (fun _ => ?_)
        exact ⟨m - 1, by omega, k + 1, cc, o ++ [cornF a b' n], by omega, by rw [cornL_next ha hb, ho], rfl, by rw [List.map_append, hcf]; rfl⟩
      · rw [if_neg h2] at hcf
        by_cases h3 : max (a.x * b'.y - a.y * b'.x) (-(a.x * b'.y - a.y * b'.x)) ≤ a.x * b'.x + a.y * b'.y
        · rw [if_pos h3] at hcf
          refine WW ?_
          refine al_ef rfl (ef_call0 false (fun _ => abs2_a _ (by omega)) rfl .fn rfl (by decide) (by kernel_rfl) rfl (fun _ => C0 rfl) (by simp)) ?_
          rintro _ _ ⟨_, _, _, ⟨rfl, rfl⟩, hF, hH⟩
          (try simp only [nsl, Nat.reduceAdd, Nat.reduceLT, Nat.reduceSub] at hF); (try simp only [nsl, Nat.reduceAdd, Nat.reduceLT, Nat.reduceSub] at hH); subst hF; subst hH
          refine WW ?_
          refine al_ef rfl (Zapp (KA (t := 22) rfl)) ?_
          rintro _ _ ⟨_, cc, hcc, rfl, rfl⟩
          refine WE ?_
          refine WA ?_
          refine wk_of [some 0] (fun _ => [(1, .c (I n)), (6, .c (pts_r vd D)), (7, .o 0 0 (o ++ [cornF a b' n]).length cc), (8, .c (I (k + 1 + 1 : Nat)))]) (fun _ => _) (by decide) (ZNL hE) ZCF ZCH (fun _ => ?_)
          exact ⟨m - 1, by omega, k + 1, cc, o ++ [cornF a b' n], by omega, by rw [cornL_next ha hb, ho], rfl, by rw [List.map_append, hcf]; rfl⟩
        · rw [if_neg h3] at hcf
          refine WW ?_
          refine al_ef rfl (ef_call0 false (fun _ => abs2_a _ (by omega)) rfl .fn rfl (by decide) (by kernel_rfl) rfl (fun _ => C0 rfl) (by simp)) ?_
          rintro _ _ ⟨_, _, _, ⟨rfl, rfl⟩, hF, hH⟩
          (try simp only [nsl, Nat.reduceAdd, Nat.reduceLT, Nat.reduceSub] at hF); (try simp only [nsl, Nat.reduceAdd, Nat.reduceLT, Nat.reduceSub] at hH); subst hF; subst hH
          refine WW ?_
          refine al_ef rfl (Zapp (KA (t := 22) rfl)) ?_
          rintro _ _ ⟨_, cc, hcc, rfl, rfl⟩
          refine WE ?_
          refine WA ?_
          refine wk_of [some 0] (fun _ => [(1, .c (I n)), (6, .c (pts_r vd D)), (7, .o 0 0 (o ++ [cornF a b' n]).length cc), (8, .c (I (k + 1 + 1 : Nat)))]) (fun _ => _) (by decide) (ZNL hE) ZCF ZCH (fun _ => ?_)
          exact ⟨m - 1, by omega, k + 1, cc, o ++ [cornF a b' n], by omega, by rw [cornL_next ha hb, ho], rfl, by rw [List.map_append, hcf]; rfl⟩
  obtain rfl : k = D.length - 1 := by omega
  subst ho
  refine ZZ ?_
  refine WA ?_
  exact aret_f2 [] [] rfl rfl rfl rfl rfl rfl (by rw [List.drop_zero, List.take_of_length_le (by simp)]) (by simp) (by decide) (by decide) (ZNK rfl) (fun _ => .nil) (fun v' => ⟨v', rfl, rfl⟩)
end Go.Proofs.Ytpbedckdnoogpaa
