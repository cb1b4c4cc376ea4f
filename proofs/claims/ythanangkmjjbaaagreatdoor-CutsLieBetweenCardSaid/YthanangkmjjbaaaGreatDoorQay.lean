/- Several-order regions where three may come next. -/
import Derived.Test.YthanangkmjjbaaaGreatDoorQax
import Derived.Test.YthanangkmjjbaaaGreatDoorQar
set_option linter.unusedSimpArgs false
set_option linter.unusedVariables false
/- Least and greatest of numbers; which vertices are used; the program's box, by value. -/
-- NEWM
namespace Go.Proofs.YthanangkmjjbaaaGreatDoor
open Go Go.RowKit
set_option maxRecDepth 100000
abbrev zR (l : List Int) : List (List CV) := l.map fun z => [I z]
theorem minI_v (l : List Int) (v : Value) (hn : l ≠ []) (hl : l.length ≤ 1000000000) : ACalls Tryz.prog 76 [.c (.r v (zR l))] [] fun u H => u = .c (I (minL l)) ∧ H = [] := by
  have e1 : (zR l).length = l.length := by simp
  have hp : 0 < l.length := List.length_pos_iff.2 hn
  obtain ⟨z0, hz0⟩ : ∃ z, l[0]? = some z := ⟨_, List.getElem?_eq_getElem hp⟩
  have hrow0 : (zR l)[0]? = some [I z0] := by rw [List.getElem?_map, hz0]; rfl
  have ht1 : l.take 1 = [z0] := by rw [List.take_add_one, hz0]; rfl
  refine acalls_of (N := 25) Tryz.func76 rfl rfl (by simp) fun E hE => ?_
  refine WA ?_
  refine WA ?_
  refine aw_cond rfl (fun h => absurd h (by simp; try omega)) (fun _ => ?_)
  refine ZZ ?_
  refine WA ?_
  refine WA ?_
  refine aw_loopw (fun m F H => ∃ (k : Nat), m + k = l.length ∧ 1 ≤ k ∧ F = [(0, .c (.r v (zR l))), (3, .c (I (minL (l.take k)))), (4, .c (I k))] ∧ H = []) ?_ ?_
  · refine wk_of [] (fun _ => [(0, .c (.r v (zR l))), (3, .c (I z0)), (4, .c (I (1 : Nat)))]) (fun _ => _) (by decide) (ZNL hE) ZCF (fun _ => .nil) (fun _ => ?_)
    exact ⟨l.length - 1, 1, by omega, by omega, by rw [ht1]; rfl, rfl⟩
  rintro m F H ⟨k, hk, hk1, rfl, rfl⟩
  refine WA ?_
  refine aw_if rfl (fun hlt => ?_) (fun hge => ?_)
  · obtain ⟨z, hz⟩ : ∃ z, l[k]? = some z := ⟨_, List.getElem?_eq_getElem (by omega)⟩
    have hrow : (zR l)[k]? = some [I z] := by rw [List.getElem?_map, hz]; rfl
    have hne : l.take k ≠ [] := fun h => by
      have := congrArg List.length h
      rw [List.length_take, List.length_nil] at this
      omega
    have ht : minL (l.take (k + 1)) = min (minL (l.take k)) z := by
      rw [List.take_add_one, hz]
      exact minL_snoc hne
    refine WA ?_
    refine WA ?_
    refine wk_of [] (fun _ => [(0, .c (.r v (zR l))), (3, .c (I (min (minL (l.take k)) z))), (4, .c (I (k + 1 : Nat)))]) (fun _ => _) (by decide) (ZNL hE) ZCF (fun _ => .nil) (fun _ => ?_)
    exact ⟨m - 1, by omega, k + 1, by omega, by omega, by rw [ht], rfl⟩
  refine WA ?_
  refine aret_1 [] _ rfl rfl rfl (by decide) (ZNK rfl) (fun _ => .nil) ⟨?_, rfl⟩
  rw [List.take_of_length_le (by omega)]
theorem maxI_v (l : List Int) (v : Value) (hn : l ≠ []) (hl : l.length ≤ 1000000000) : ACalls Tryz.prog 77 [.c (.r v (zR l))] [] fun u H => u = .c (I (maxL l)) ∧ H = [] := by
  have e1 : (zR l).length = l.length := by simp
  have hp : 0 < l.length := List.length_pos_iff.2 hn
  obtain ⟨z0, hz0⟩ : ∃ z, l[0]? = some z := ⟨_, List.getElem?_eq_getElem hp⟩
  have hrow0 : (zR l)[0]? = some [I z0] := by rw [List.getElem?_map, hz0]; rfl
  have ht1 : l.take 1 = [z0] := by rw [List.take_add_one, hz0]; rfl
  refine acalls_of (N := 25) Tryz.func77 rfl rfl (by simp) fun E hE => ?_
  refine WA ?_
  refine WA ?_
  refine aw_cond rfl (fun h => absurd h (by simp; try omega)) (fun _ => ?_)
  refine ZZ ?_
  refine WA ?_
  refine WA ?_
  refine aw_loopw (fun m F H => ∃ (k : Nat), m + k = l.length ∧ 1 ≤ k ∧ F = [(0, .c (.r v (zR l))), (3, .c (I (maxL (l.take k)))), (4, .c (I k))] ∧ H = []) ?_ ?_
  · refine wk_of [] (fun _ => [(0, .c (.r v (zR l))), (3, .c (I z0)), (4, .c (I (1 : Nat)))]) (fun _ => _) (by decide) (ZNL hE) ZCF (fun _ => .nil) (fun _ => ?_)
    exact ⟨l.length - 1, 1, by omega, by omega, by rw [ht1]; rfl, rfl⟩
  rintro m F H ⟨k, hk, hk1, rfl, rfl⟩
  refine WA ?_
  refine aw_if rfl (fun hlt => ?_) (fun hge => ?_)
  · obtain ⟨z, hz⟩ : ∃ z, l[k]? = some z := ⟨_, List.getElem?_eq_getElem (by omega)⟩
    have hrow : (zR l)[k]? = some [I z] := by rw [List.getElem?_map, hz]; rfl
    have hne : l.take k ≠ [] := fun h => by
      have := congrArg List.length h
      rw [List.length_take, List.length_nil] at this
      omega
    have ht : maxL (l.take (k + 1)) = max (maxL (l.take k)) z := by
      rw [List.take_add_one, hz]
      exact maxL_snoc hne
    refine WA ?_
    refine WA ?_
    refine wk_of [] (fun _ => [(0, .c (.r v (zR l))), (3, .c (I (max (maxL (l.take k)) z))), (4, .c (I (k + 1 : Nat)))]) (fun _ => _) (by decide) (ZNL hE) ZCF (fun _ => .nil) (fun _ => ?_)
    exact ⟨m - 1, by omega, k + 1, by omega, by omega, by rw [ht], rfl⟩
  refine WA ?_
  refine aret_1 [] _ rfl rfl rfl (by decide) (ZNK rfl) (fun _ => .nil) ⟨?_, rfl⟩
  rw [List.take_of_length_le (by omega)]
/-- Flags of vertices. -/
abbrev flR (l : List Bool) : List (List CV) := l.map fun b => [B b]
def flagL (n : Nat) (Fs : List Fac3) : List Bool := (List.range n).map (usedI Fs)
theorem flag_len (n : Nat) (Fs : List Fac3) : (flagL n Fs).length = n := by simp [flagL]
theorem flag_next {n k : Nat} {Fs : List Fac3} {ia ib ic : Nat} (h : Fs[k]? = some ⟨ia, ib, ic⟩) : flagL n (Fs.take (k + 1)) = (((flagL n (Fs.take k)).set ia true).set ib true).set ic true := by
  refine List.ext_getElem? fun i => ?_
  rw [List.getElem?_set, List.getElem?_set, List.getElem?_set]
  simp only [flagL, List.length_set, List.length_map, List.length_range, List.getElem?_map]
  have hu := usedI_next (k := k) h i
  simp only at hu
  by_cases hi : i < n
  · rw [List.getElem?_range hi]
    simp only [Option.map_some, hu]
    by_cases h1 : ic = i
    · subst h1; simp [hi]
    · rw [if_neg h1]
      by_cases h2 : ib = i
      · subst h2; simp [hi]
      · rw [if_neg h2]
        by_cases h3 : ia = i
        · subst h3; simp [hi]
        · rw [if_neg h3]
          have a1 : ¬ ((ia : Int) = (i : Int)) := by omega
          have a2 : ¬ ((ib : Int) = (i : Int)) := by omega
          have a3 : ¬ ((ic : Int) = (i : Int)) := by omega
          simp [a1, a2, a3]
  · have hr : (List.range n)[i]? = none := List.getElem?_eq_none (by simp; omega)
    rw [hr]
    split
    · rename_i e; subst e; simp [hi]
    · split
      · rename_i e; subst e; simp [hi]
      · split
        · rename_i e; subst e; simp [hi]
        · rfl
theorem flR_at (l : List Bool) (i : Nat) (h : i < l.length) : ∃ b, (flR l)[i]? = some [B b] := ⟨l[i], by simp [flR, h]⟩
theorem used_v (v w : Value) (V : List Vec3) (Fs : List Fac3) (hM : MOk V Fs) : ACalls Tryz.prog 124 [mshA v w V Fs] [] fun u H => ∃ q, u = .c (.r q (flR (flagL V.length Fs))) ∧ H = [] := by
  have e1 : (vR V).length = V.length := by simp
  have e2 : (fR Fs).length = Fs.length := by simp
  have e1' : (V.map Vec3.row).length = V.length := by simp
  have e2' : (Fs.map Fac3.row).length = Fs.length := by simp
  have hlv := hM.lv
  have hlf := hM.lf
  refine acalls_of (N := 31) Tryz.func124 rfl rfl (by simp) fun E hE => ?_
  refine WA ?_
  refine WR ?_
  refine WE ?_
  refine WA ?_
  refine aw_loopw (fun m F H => ∃ (k : Nat), m + k = Fs.length ∧ F = [(1, .p 0 0 0), (3, .o 1 0 (V.map Vec3.row).length (V.map Vec3.row).length), (11, .c (.r w (fR Fs))), (12, .c (I (fR Fs).length)), (13, .c (I k))] ∧ H = [mBox v w V (fR Fs), .arr 4 1 V.length (flR (flagL V.length (Fs.take k)))]) ?_ ?_
  · refine wk_of [some 0, some 1] (fun _ => [(1, .p 0 0 0), (3, .o 1 0 (V.map Vec3.row).length (V.map Vec3.row).length), (11, .c (.r w (fR Fs))), (12, .c (I (fR Fs).length)), (13, .c (I (0 : Nat)))]) (fun _ => [mBox v w V (fR Fs), .arr 4 1 V.length (List.replicate V.length [B false])]) (by decide) (ZNL hE) ZCF ZCH (fun _ => ?_)
    refine ⟨Fs.length, 0, by omega, rfl, ?_⟩
    have : flR (flagL V.length (Fs.take 0)) = List.replicate V.length [B false] := by
      simp [flagL, usedI, List.eq_replicate_iff]
    rw [this]
  rintro m F H ⟨k, hk, rfl, rfl⟩
  refine WA ?_
  refine aw_if rfl (fun hlt => ?_) (fun hge => ?_)
  · obtain ⟨f, hz⟩ : ∃ z, Fs[k]? = some z := ⟨_, List.getElem?_eq_getElem (by omega)⟩
    obtain ⟨h1, h2, h3⟩ := hM.ix (List.mem_of_getElem? hz)
    obtain ⟨fa, fb, fc⟩ := f
    simp only at h1 h2 h3
    obtain ⟨ia, ha⟩ : ∃ i : Nat, fa = i := ⟨fa.toNat, by omega⟩
    obtain ⟨ib, hb⟩ : ∃ i : Nat, fb = i := ⟨fb.toNat, by omega⟩
    obtain ⟨ic, hc⟩ : ∃ i : Nat, fc = i := ⟨fc.toNat, by omega⟩
    subst ha; subst hb; subst hc
    have hrow : (fR Fs)[k]? = some [I ia, I ib, I ic] := by rw [List.getElem?_map, hz]; rfl
    have hfl := flag_len V.length (Fs.take k)
    have hst : flR (flagL V.length (Fs.take (k + 1))) = (((flR (flagL V.length (Fs.take k))).set ia [B true]).set ib [B true]).set ic [B true] := by
      rw [flag_next hz]
      simp only [flR, List.map_set]
    generalize flagL V.length (Fs.take k) = fl at hfl hst ⊢
    have hfl2 : (flR fl).length = V.length := by simp [hfl]
    have s1 : (flR fl).set (0 + ia) [B true] = flR (fl.set ia true) := by rw [Nat.zero_add, flR, flR]; simp only [List.map_set]
    have s2 : ((flR fl).set (0 + ia) [B true]).set (0 + ib) [B true] = flR ((fl.set ia true).set ib true) := by rw [s1, Nat.zero_add, flR, flR]; simp only [List.map_set]
    obtain ⟨ba, hra⟩ : ∃ b, (flR fl)[0 + ia]? = some [B b] := flR_at _ _ (by omega)
    obtain ⟨bb, hrb⟩ : ∃ b, ((flR fl).set (0 + ia) [B true])[0 + ib]? = some [B b] := by rw [s1]; exact flR_at _ _ (by simp; omega)
    obtain ⟨bc, hrc⟩ : ∃ b, (((flR fl).set (0 + ia) [B true]).set (0 + ib) [B true])[0 + ic]? = some [B b] := by rw [s2]; exact flR_at _ _ (by simp; omega)
    refine WA ?_
    refine ZZ ?_
    refine aw_regionT [(0, none), (1, none), (2, none), (3, none), (4, none), (5, none), (6, none), (7, none), (8, none), (9, none), (10, some [3, 4, 5, 6, 7, 8]), (11, none), (12, some [6, 7, 8]), (13, none), (14, some [])] hMixed (by kernel_rfl) ?_
    refine WQ ?_
    refine WA ?_
    refine wk_of [some 0, some 1] (fun _ => [(1, .p 0 0 0), (3, .o 1 0 (V.map Vec3.row).length (V.map Vec3.row).length), (11, .c (.r w (fR Fs))), (12, .c (I (fR Fs).length)), (13, .c (I (k + 1 : Nat)))]) (fun _ => [mBox v w V (fR Fs), .arr 4 1 V.length ((((flR fl).set ia [B true]).set ib [B true]).set ic [B true])]) (by decide) (ZNL hE) ZCF ZCH (fun _ => ?_)
    exact ⟨m - 1, by omega, k + 1, by omega, rfl, by rw [hst]⟩
  refine WA ?_
  obtain rfl : k = Fs.length := by omega
  exact aret_f1 [] _ rfl rfl rfl rfl (by rw [List.drop_zero, List.take_of_length_le (by simp [flag_len])]) (by simp [flag_len]) rfl (by decide) (ZNK rfl) (fun _ => .nil) (fun q => ⟨q, by rw [List.take_of_length_le (Nat.le_refl _)], rfl⟩)
abbrev vBox (x y z : Int) : OB := .box [.c (I x), .c (I y), .c (I z)]
/-- Two structs as results. -/
theorem aret_c2 {fn : Func} {nl p q k : Nat} {ty : TypeId} {Qr : AV → List OB → Prop} {F : Fm} {H : List OB} {u v : AV} {a b a' b' : List AV} (hr : fn.results = #[.cell p ty, .cell q ty]) (hk : ldk Tryz.prog ty = some (some k)) (h1 : F.lookup p = some u) (h2 : F.lookup q = some v)
    (c1 : Cells H u a) (c2 : Cells H v b) (n1 : k ≤ a.length) (n2 : k ≤ b.length) (e1 : a.take k = a') (e2 : b.take k = b') (hl : nl = 0) (v1 : ∀ g, CvL g [] H true a' a') (v2 : ∀ g, CvL g [] H true b' b') (hq : Qr (.t [.a a', .a b']) []) : ARet Tryz.prog fn nl Qr .ret F H := by
  subst hl
  exact aret_of (us := [.a a', .a b']) [] (fun _ => .t [.a a', .a b']) (fun _ => []) (by rw [hr]; exact .cella h1 hk c1 n1 e1 (.cella h2 hk c2 n2 e2 .nil)) (by decide) (fun i hi => absurd hi (Nat.not_lt_zero i)) (fun g => .tL (.cons (.aL (v1 g)) (.cons (.aL (v2 g)) .nil))) (fun _ => .nil) (fun _ => hq)
theorem boxof_v (v w : Value) (V : List Vec3) (Fs : List Fac3) (hM : MOk V Fs) : ACalls Tryz.prog 79 [mshA v w V Fs] [] fun u H => ∃ lo hi : Vec3, u = .t [.a (lo.row.map .c), .a (hi.row.map .c)] ∧ H = [] ∧ lo.z = loZ V Fs ∧ hi.z = hiZ V Fs := by
  have e1 : (vR V).length = V.length := by simp
  have e1' : (V.map Vec3.row).length = V.length := by simp
  have hlv := hM.lv
  have e3 : (flR (flagL V.length Fs)).length = V.length := by simp [flag_len]
  refine acalls_of (N := 63) Tryz.func79 rfl rfl (by simp) fun E hE => ?_
  refine WA ?_
  refine WA ?_
  refine WR ?_
  refine al_ef rfl (ef_call0 false (fun _ => used_v v w V Fs hM) rfl .fn rfl (by decide) (by kernel_rfl) rfl (fun _ => C0 rfl) (by simp)) ?_
  rintro _ _ ⟨_, _, _, ⟨q, rfl, rfl⟩, hF, hH⟩
  (try simp only [nsl, Nat.reduceAdd, Nat.reduceLT, Nat.reduceSub] at hF); (try simp only [nsl, Nat.reduceAdd, Nat.reduceLT, Nat.reduceSub] at hH); subst hF; subst hH
  refine WE ?_
  refine aw_loopw (fun m F H => ∃ (k : Nat) (lx ly lz hx hy hz : Int), m + k = V.length ∧ lz = minL (uzs V Fs k) ∧ hz = maxL (uzs V Fs k) ∧ F = [(1, .p 0 0 0), (2, .p 1 0 0), (3, .p 2 0 0), (4, .c (B (decide (uzs V Fs k = [])))), (9, .c (.r q (flR (flagL V.length Fs)))), (10, .c (I (flR (flagL V.length Fs)).length)), (11, .c (I k))] ∧ H = [mBox v w V (fR Fs), vBox lx ly lz, vBox hx hy hz]) ?_ ?_
  · refine wk_of [some 0, some 1, some 2] (fun _ => [(1, .p 0 0 0), (2, .p 1 0 0), (3, .p 2 0 0), (4, .c (B true)), (9, .c (.r q (flR (flagL V.length Fs)))), (10, .c (I (flR (flagL V.length Fs)).length)), (11, .c (I (0 : Nat)))]) (fun _ => [mBox v w V (fR Fs), vBox 0 0 0, vBox 0 0 0]) (by decide) (ZNL hE) ZCF ZCH (fun _ => ?_)
    exact ⟨V.length, 0, 0, 0, 0, 0, 0, 0, by omega, rfl, rfl, rfl, rfl⟩
  rintro m F H ⟨k, lx, ly, lz, hx, hy, hz, hk, hlz, hhz, rfl, rfl⟩
  refine WA ?_
  refine aw_if rfl (fun hlt => ?_) (fun hge => ?_)
  · have hkv : k < V.length := by omega
    have hrowb : (flR (flagL V.length Fs))[k]? = some [B (usedI Fs k)] := by simp [flR, flagL, hkv]
    have hrow := vrow hkv
    have hun := uzs_next V Fs k
    generalize vx V (k : Int) = z at hrow hun
    obtain ⟨zx, zy, zz⟩ := z
    simp only at hun
    generalize usedI Fs k = bu at hrowb hun
    cases bu with
    | false =>
      rw [if_neg (by simp)] at hun
      refine WA ?_
      refine WA ?_
      refine WA ?_
      refine aw_cond_t rfl ?_
      refine ZZ ?_
      refine WA ?_
      refine wk_of [some 0, some 1, some 2] (fun _ => [(1, .p 0 0 0), (2, .p 1 0 0), (3, .p 2 0 0), (4, .c (B (decide (uzs V Fs k = [])))), (9, .c (.r q (flR (flagL V.length Fs)))), (10, .c (I (flR (flagL V.length Fs)).length)), (11, .c (I (k + 1 : Nat)))]) (fun _ => [mBox v w V (fR Fs), vBox lx ly lz, vBox hx hy hz]) (by decide) (ZNL hE) ZCF ZCH (fun _ => ?_)
      exact ⟨m - 1, by omega, k + 1, lx, ly, lz, hx, hy, hz, by omega, by rw [hun]; exact hlz, by rw [hun]; exact hhz, by rw [hun], rfl⟩
    | true =>
      rw [if_pos rfl] at hun
      by_cases hL : uzs V Fs k = []
      · refine WA ?_
        refine WA ?_
        refine WA ?_
        refine aw_cond_f rfl ?_
        refine WA ?_
        refine aw_if rfl (fun _ => ?_) (fun h => absurd hL h)
        refine ZZ ?_
        refine aw_regionT [(0, none), (1, none), (2, some [1]), (3, some []), (4, none)] hMixed (by kernel_rfl) ?_
        refine WQ ?_
        refine WA ?_
        refine wk_of [some 0, some 1, some 2] (fun _ => [(1, .p 0 0 0), (2, .p 1 0 0), (3, .p 2 0 0), (4, .c (B false)), (9, .c (.r q (flR (flagL V.length Fs)))), (10, .c (I (flR (flagL V.length Fs)).length)), (11, .c (I (k + 1 : Nat)))]) (fun _ => [mBox v w V (fR Fs), vBox zx zy zz, vBox zx zy zz]) (by decide) (ZNL hE) ZCF ZCH (fun _ => ?_)
        rw [hL] at hun
        exact ⟨m - 1, by omega, k + 1, zx, zy, zz, zx, zy, zz, by omega, by rw [hun]; rfl, by rw [hun]; rfl, by rw [hun]; rfl, rfl⟩
      · refine WA ?_
        refine WA ?_
        refine WA ?_
        refine aw_cond_f rfl ?_
        refine WA ?_
        refine aw_if rfl (fun h => absurd h hL) (fun _ => ?_)
        refine WA ?_
        refine WA ?_
        refine WA ?_
        refine wk_of [some 0, some 1, some 2] (fun _ => [(1, .p 0 0 0), (2, .p 1 0 0), (3, .p 2 0 0), (4, .c (B false)), (9, .c (.r q (flR (flagL V.length Fs)))), (10, .c (I (flR (flagL V.length Fs)).length)), (11, .c (I (k + 1 : Nat)))]) (fun _ => [mBox v w V (fR Fs), vBox (min lx zx) (min ly zy) (min lz zz), vBox (max hx zx) (max hy zy) (max hz zz)]) (by decide) (ZNL hE) ZCF ZCH (fun _ => ?_)
        refine ⟨m - 1, by omega, k + 1, _, _, _, _, _, _, by omega, ?_, ?_, ?_, rfl⟩
        · rw [hun, minL_snoc hL, hlz]
        · rw [hun, maxL_snoc hL, hhz]
        · rw [hun]; simp
  refine ZZ ?_
  refine aw_regionT [(0, none), (1, none), (2, some [1]), (3, some [])] hMixed (by kernel_rfl) ?_
  refine WQ ?_
  obtain rfl : k = V.length := by omega
  obtain ⟨b1, b2, b3⟩ := uzs_box hM
  exact aret_c2 rfl (KK (t := 34) rfl) rfl rfl (Cells.box rfl) (Cells.box rfl) (by simp) (by simp) (by (try simp only [nm, putL, Nat.reduceAdd, cellsOf, cvOf]) <;> rfl) (by (try simp only [nm, putL, Nat.reduceAdd, cellsOf, cvOf]) <;> rfl) rfl (fun _ => C0 rfl) (fun _ => C0 rfl) ⟨⟨lx, ly, lz⟩, ⟨hx, hy, hz⟩, rfl, rfl, by rw [hlz, b2], by rw [hhz, b3]⟩
end Go.Proofs.YthanangkmjjbaaaGreatDoor

/- Several-order regions where three may come next. -/
namespace Go.Proofs.YthanangkmjjbaaaGreatDoor
open Go Go.RowKit
theorem wpM_all {P : Program} {ops : Array Oper} {Q : Act → World → Prop} {n : Nat} {ps : List Plan} {a : Act} {w : World} (h : ∀ e ∈ headsOf ps, wpM P ops Q (n + 1) ((tailsOf e ps).map (e :: ·)) a w) : wpM P ops Q (n + 1) ps a w := fun e he => by
  have key : ∀ (e : Nat × Option (List Nat)) (l : List Plan), tailsOf e (l.map (e :: ·)) = l := by
    intro e l
    induction l with
    | nil => rfl
    | cons x l ih => simp only [List.map_cons, tailsOf, beq_self_eq_true, if_true, ih]
  have keyh : ∀ (e : Nat × Option (List Nat)) (l : List Plan), l ≠ [] → e ∈ headsOf (l.map (e :: ·)) := by
    intro e l hl
    cases l with
    | nil => exact absurd rfl hl
    | cons x l =>
      simp only [List.map_cons, headsOf]
      split
      · rename_i hc; simpa using hc
      · simp
  obtain ⟨l, hl⟩ := mem_headsOf (ps := ps) (e := e) he
  have hne : tailsOf e ps ≠ [] := List.ne_nil_of_mem (tailsOf_mem hl)
  have := h e he e (keyh _ _ hne)
  rw [key] at this
  exact this
theorem am_three {P : Program} {N : Nat} {E : Env} {F : Fm} {H : List OB} {Q : Exit → Fm → List OB → Prop} {ops : Array Oper} {n : Nat} {e1 e2 e3 : Nat × Option (List Nat)} {ps p1 p2 p3 : List Plan} (hh : headsOf ps = [e1, e2, e3]) (h1 : tailsOf e1 ps = p1) (h2 : tailsOf e2 ps = p2) (h3 : tailsOf e3 ps = p3)
    (k1 : AM P N E ops (n + 1) (p1.map (e1 :: ·)) F H Q) (k2 : AM P N E ops (n + 1) (p2.map (e2 :: ·)) F H Q) (k3 : AM P N E ops (n + 1) (p3.map (e3 :: ·)) F H Q) : AM P N E ops (n + 1) ps F H Q := fun S ρ a w hR => wpM_all fun e he => by
  rw [hh] at he
  simp only [List.mem_cons, List.not_mem_nil, or_false] at he
  rcases he with rfl | rfl | rfl
  · rw [h1]; exact k1 S ρ a w hR
  · rw [h2]; exact k2 S ρ a w hR
  · rw [h3]; exact k3 S ρ a w hR
end Go.Proofs.YthanangkmjjbaaaGreatDoor
