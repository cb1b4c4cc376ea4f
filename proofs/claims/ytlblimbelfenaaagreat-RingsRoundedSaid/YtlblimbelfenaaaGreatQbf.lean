/- The reference's closures over segments, by value. -/
import Derived.Test.YtlblimbelfenaaaGreatQay
import Derived.Test.YtlblimbelfenaaaGreatQbe
set_option linter.unusedSimpArgs false
set_option linter.unusedVariables false
/- Segments as an own array, their order, one that is left out; contours of the reference in order. -/
-- NEWM
namespace Go.Proofs.YtlblimbelfenaaaGreat
open Go Go.RowKit
set_option maxRecDepth 100000
set_option maxHeartbeats 4000000 in
theorem segments_ro (v w : Value) (V : List Vec3) (Fs : List Fac3) (z : Int) (hM : MOk V Fs) : ACalls Tryz.prog 25 [mshA v w V Fs, .c (I z)] [] fun u H => ∃ c : Nat, (sgL V Fs z).length ≤ c ∧ u = .o 0 0 (sgL V Fs z).length c ∧ H = [.arr 77 5 c ((sgL V Fs z).map Seg5.row)] := by
 have hlf := hM.lf
 refine acalls_of (N := 38) Tryz.func25 rfl rfl (by simp) fun E hE => ?_
 refine WA ?_
 refine WA ?_
 refine WR ?_
 refine al_ef rfl (ef_call0 false (fun _ => cross_r v w V Fs z hM) rfl .fn rfl (by decide) (by kernel_rfl) rfl (fun _ => C0 rfl) (by simp)) ?_
 rintro _ _ ⟨_, _, _, ⟨q, rfl, rfl⟩, hF, hH⟩
 (refine NST hF hH ?_; clear hF hH; rintro rfl rfl)
 refine WE ?_
 have hsg : sgL V Fs z = (crT V Fs z Fs.length).map (sgAt V Fs z) := rfl
 have hmem : ∀ x ∈ crT V Fs z Fs.length, 0 ≤ x ∧ x < Fs.length ∧ crF V z (fcAt Fs x.toNat) = true := fun x hx => crT_mem hx
 have hCl := crT_len V Fs z Fs.length
 generalize crT V Fs z Fs.length = C at hsg hmem hCl ⊢
 have e1 : (zR C).length = C.length := by simp
 refine aw_loopw (fun m F H => ∃ (k c : Nat) (L : List Seg5), m + k = C.length ∧ L.length = k ∧ L.length ≤ c ∧ L = (C.take k).map (sgAt V Fs z) ∧ F = [(1, .c (I z)), (2, .p 0 0 0), (5, .o 1 0 L.length c), (12, .c (.r q (zR C))), (13, .c (I (zR C).length)), (14, .c (I k))] ∧ H = [mBox v w V (fR Fs), .arr 77 5 c (L.map Seg5.row)]) ?_ ?_
 ·refine wk_of [some 0, none] (fun _ => [(1, .c (I z)), (2, .p 0 0 0), (5, .o 1 0 0 0), (12, .c (.r q (zR C))), (13, .c (I (zR C).length)), (14, .c (I (0 : Nat)))]) (fun _ => [mBox v w V (fR Fs), .arr 77 5 0 []]) (by decide) (ZNL hE) ZCF ZCH (fun _ => ?_)
  exact ⟨C.length, 0, 0, [], by omega, rfl, by simp, rfl, rfl, rfl⟩
 rintro m F H ⟨k, c, L, hk, hLk, hLc, hLe, rfl, rfl⟩
 refine WA ?_
 refine aw_if rfl (fun hlt => ?_) (fun hge => ?_)
 ·obtain ⟨x, hx⟩ : ∃ z, C[k]? = some z := ⟨_, List.getElem?_eq_getElem (by omega)⟩
  obtain ⟨hx0, hx1, hx2⟩ := hmem x (List.mem_of_getElem? hx)
  have hLn : L ++ [sgAt V Fs z x] = (C.take (k + 1)).map (sgAt V Fs z) := by rw [List.take_add_one, hx, List.map_append, ← hLe]; rfl
  obtain ⟨i, rfl⟩ : ∃ i : Nat, x = i := ⟨x.toNat, by omega⟩
  have hfm := fcAt_mem (Fs := Fs) (i := i) (by omega)
  have hfg := fcAt_get (Fs := Fs) (i := i) (by omega)
  have hsa : sgAt V Fs z i = sgF V z i (fcAt Fs i) := rfl
  rw [hsa] at hLn
  have hgi := (sg_spec (i := i) hx2).2.2
  rw [Int.toNat_natCast] at hgi
  generalize fcAt Fs i = f at hLn hfm hfg hgi
  obtain ⟨fa, fb, fc⟩ := f
  have hrowx : (zR C)[k]? = some [I i] := by rw [List.getElem?_map, hx]; rfl
  have hrowf : (fR Fs)[i]? = some [I fa, I fb, I fc] := by rw [List.getElem?_map, hfg]; rfl
  have hg0 : ∃ g, sgF V z i ⟨fa, fb, fc⟩ = g := ⟨_, rfl⟩
  obtain ⟨⟨gi, ⟨g1, g2⟩, ⟨g3, g4⟩⟩, hg0⟩ := hg0
  rw [hg0] at hLn hgi
  simp only at hgi
  subst hgi
  refine WA ?_
  refine aw_cut (fun F H => F = [(1, .c (I z)), (2, .p 0 0 0), (5, .o 1 0 L.length c), (7, .c (I i)), (8, .p 2 0 0), (9, .p 3 0 0), (12, .c (.r q (zR C))), (13, .c (I (zR C).length)), (14, .c (I k))] ∧ H = [mBox v w V (fR Fs), .arr 77 5 c (L.map Seg5.row), .box [.c (I g3), .c (I g4)], .box [.c (I g1), .c (I g2)]]) ?_ ?_ wk_aw
  ·refine ZZ ?_
   refine aw_regionM [[(0, none), (1, none), (2, none), (3, none), (4, none), (5, none), (6, none), (7, some []), (8, none), (9, none), (10, none), (11, some [0, 1, 2, 3, 4, 5, 6, 8, 9, 10]), (12, some [0, 1, 2, 3, 4, 5, 6, 8, 9, 10]), (13, some [10]), (14, some [])], [(0, none), (1, none), (2, none), (3, none), (4, none), (5, none), (6, none), (7, some []), (8, none), (9, none), (10, none), (12, some [0, 1, 2, 3, 4, 5, 6, 8, 9, 10]), (11, some [0, 1, 2, 3, 4, 5, 6, 8, 9, 10]), (13, some [10]), (14, some [])], [(0, none), (1, none), (2, none), (3, none), (4, none), (5, none), (6, none), (11, some [0, 1, 2, 3, 4, 5, 6]), (7, some []), (8, none), (9, none), (10, none), (12, some [0, 1, 2, 3, 4, 5, 6, 8, 9, 10]), (13, some [10]), (14, some [])], [(0, none), (1, none), (2, none), (3, none), (4, none), (5, none), (6, none), (11, some [0, 1, 2, 3, 4, 5, 6]), (12, some [0, 1, 2, 3, 4, 5, 6]), (7, some []), (8, none), (9, none), (10, none), (13, some [10]), (14, some [])], [(0, none), (1, none), (2, none), (3, none), (4, none), (5, none), (6, none), (12, some [0, 1, 2, 3, 4, 5, 6]), (7, some []), (8, none), (9, none), (10, none), (11, some [0, 1, 2, 3, 4, 5, 6, 8, 9, 10]), (13, some [10]), (14, some [])], [(0, none), (1, none), (2, none), (3, none), (4, none), (5, none), (6, none), (12, some [0, 1, 2, 3, 4, 5, 6]), (11, some [0, 1, 2, 3, 4, 5, 6]), (7, some []), (8, none), (9, none), (10, none), (13, some [10]), (14, some [])]] hMixed (by kernel_rfl) ?_
   focus
    refine WM ?_
    refine am_three (by rfl) (by rfl) (by rfl) (by rfl) ?_ ?_ ?_
    rotate_left 2
    refine WM ?_
    refine am_two (by rfl) (by rfl) (by rfl) ?_ ?_
    rotate_left
    refine WM ?_
    refine am_ef (i := 7) (by rfl) (by rfl) rfl rfl (ef_call0 false (fun _ => goes_r v w V Fs z ⟨fa, fb, fc⟩ i hM hfm) rfl .fn rfl (by decide) (by kernel_rfl) rfl (fun _ => C0 rfl) (by simp)) ?_
    rintro _ _ ⟨_, _, _, ⟨rfl, rfl⟩, hF, hH⟩
    (refine NST hF hH ?_; clear hF hH; rintro rfl rfl)
    refine ⟨AGX, ?_⟩
    refine WN ?_
    rotate_right
    refine am_ef (i := 7) (by rfl) (by rfl) rfl rfl (ef_call0 false (fun _ => goes_r v w V Fs z ⟨fa, fb, fc⟩ i hM hfm) rfl .fn rfl (by decide) (by kernel_rfl) rfl (fun _ => C0 rfl) (by simp)) ?_
    rintro _ _ ⟨_, _, _, ⟨rfl, rfl⟩, hF, hH⟩
    (refine NST hF hH ?_; clear hF hH; rintro rfl rfl)
    refine ⟨AGX, ?_⟩
    refine WN ?_
    rotate_right
    refine WM ?_
    refine am_two (by rfl) (by rfl) (by rfl) ?_ ?_
    rotate_left
    refine WM ?_
    refine am_ef (i := 7) (by rfl) (by rfl) rfl rfl (ef_call0 false (fun _ => goes_r v w V Fs z ⟨fa, fb, fc⟩ i hM hfm) rfl .fn rfl (by decide) (by kernel_rfl) rfl (fun _ => C0 rfl) (by simp)) ?_
    rintro _ _ ⟨_, _, _, ⟨rfl, rfl⟩, hF, hH⟩
    (refine NST hF hH ?_; clear hF hH; rintro rfl rfl)
    refine ⟨AGX, ?_⟩
    refine WN ?_
    rotate_right
    refine am_ef (i := 7) (by rfl) (by rfl) rfl rfl (ef_call0 false (fun _ => goes_r v w V Fs z ⟨fa, fb, fc⟩ i hM hfm) rfl .fn rfl (by decide) (by kernel_rfl) rfl (fun _ => C0 rfl) (by simp)) ?_
    rintro _ _ ⟨_, _, _, ⟨rfl, rfl⟩, hF, hH⟩
    (refine NST hF hH ?_; clear hF hH; rintro rfl rfl)
    refine ⟨AGX, ?_⟩
    refine WN ?_
    rotate_right
    refine am_ef (i := 7) (by rfl) (by rfl) rfl rfl (ef_call0 false (fun _ => goes_r v w V Fs z ⟨fa, fb, fc⟩ i hM hfm) rfl .fn rfl (by decide) (by kernel_rfl) rfl (fun _ => C0 rfl) (by simp)) ?_
    rintro _ _ ⟨_, _, _, ⟨rfl, rfl⟩, hF, hH⟩
    (refine NST hF hH ?_; clear hF hH; rintro rfl rfl)
    refine ⟨AGX, ?_⟩
    refine WM ?_
    refine am_two (by rfl) (by rfl) (by rfl) ?_ ?_
    rotate_left
    refine WN ?_
    rotate_right
    refine WN ?_
   all_goals (simp only [hg0])
   all_goals (first | exact wk_of [some 0, some 1, some 2, some 3] (fun _ => [(1, .c (I z)), (2, .p 0 0 0), (5, .o 1 0 L.length c), (7, .c (I i)), (8, .p 2 0 0), (9, .p 3 0 0), (12, .c (.r q (zR C))), (13, .c (I (zR C).length)), (14, .c (I k))]) (fun _ => [mBox v w V (fR Fs), .arr 77 5 c (L.map Seg5.row), .box [.c (I g3), .c (I g4)], .box [.c (I g1), .c (I g2)]]) (by decide) (ZNL hE) ZCF ZCH (fun _ => ⟨rfl, rfl⟩) | exact wk_of [some 0, some 1, some 3, some 2] (fun _ => [(1, .c (I z)), (2, .p 0 0 0), (5, .o 1 0 L.length c), (7, .c (I i)), (8, .p 2 0 0), (9, .p 3 0 0), (12, .c (.r q (zR C))), (13, .c (I (zR C).length)), (14, .c (I k))]) (fun _ => [mBox v w V (fR Fs), .arr 77 5 c (L.map Seg5.row), .box [.c (I g3), .c (I g4)], .box [.c (I g1), .c (I g2)]]) (by decide) (ZNL hE) ZCF ZCH (fun _ => ⟨rfl, rfl⟩))
  rintro F H ⟨rfl, rfl⟩
  refine WR ?_
  refine al_ef rfl (Zapp (KA (t := 50) rfl)) ?_
  rintro _ _ ⟨_, cc, hcc, rfl, rfl⟩
  refine WE ?_
  refine WA ?_
  refine wk_of [some 0, some 1] (fun _ => [(1, .c (I z)), (2, .p 0 0 0), (5, .o 1 0 (L ++ [(⟨i, ⟨g1, g2⟩, ⟨g3, g4⟩⟩ : Seg5)]).length cc), (12, .c (.r q (zR C))), (13, .c (I (zR C).length)), (14, .c (I (k + 1 : Nat)))]) (fun _ => _) (by decide) (ZNL hE) ZCF ZCH (fun _ => ?_)
  exact ⟨m - 1, by omega, k + 1, cc, L ++ [⟨i, ⟨g1, g2⟩, ⟨g3, g4⟩⟩], by omega, by simp; omega, by simp; omega, hLn, rfl, by simp⟩
 obtain rfl : k = C.length := by omega
 rw [List.take_of_length_le (Nat.le_refl _)] at hLe
 refine WA ?_
 rw [hsg, ← hLe]
 exact aret_o [some 1] (fun _ => [.arr 77 5 c (L.map Seg5.row)]) rfl rfl rfl rfl rfl (by decide) (ZNK rfl) ZCH (fun _ => ⟨c, hLc, rfl, rfl⟩)
theorem deleteG_v (l : List Seg5) (i c : Nat) (hi : i < l.length) (hl : l.length ≤ 1000000) (hc : l.length ≤ c) : ACalls Tryz.prog 86 [.o 0 0 l.length c, .c (I i), .c (I (i + 1))] [.arr 77 5 c (l.map Seg5.row)] fun u H => ∃ l' : List Seg5, l' = l.take i ++ l.drop (i + 1) ∧ u = .o 0 0 l'.length c ∧ H = [.arr 77 5 c (l'.map Seg5.row)] := by
 refine acallsx_of false (N := 33) Tryz.func86 rfl rfl (by simp) fun E hE hP => ?_
 refine WA ?_
 refine ZR ?_
 iterate 5 refine WX1 ?_
 refine ZA (rd_slice3 (l := i) (h := i + 1) (mx := l.length) rfl (KE (t := 50) rfl) rfl rfl rfl rfl rfl (by omega) rfl rfl (by omega) (by omega) (by omega) (by omega)) ?_
 refine WE ?_
 refine WA ?_
 refine aw_cond_f rfl ?_
 refine ZZ ?_
 refine WA ?_
 refine aw_wk (wk_of (K := fun F H => F = [(0, .o 0 0 l.length c), (1, .c (I i)), (2, .c (I (i + 1))), (7, .c (I l.length))] ∧ H = [.arr 77 5 c (l.map Seg5.row)]) [some 0] (fun _ => [(0, .o 0 0 l.length c), (1, .c (I i)), (2, .c (I (i + 1))), (7, .c (I l.length))]) (fun _ => _) (by decide) (ZNL hE) ZCF ZCH (fun _ => ⟨rfl, rfl⟩)) ?_
 rintro F H ⟨rfl, rfl⟩
 have hrows : (l.map Seg5.row).take i ++ (l.drop (i + 1)).map Seg5.row = (l.take i ++ l.drop (i + 1)).map Seg5.row := by
  rw [List.map_append, List.map_take]
 have hlen : (l.take i ++ l.drop (i + 1)).length = i + (l.length - (i + 1)) := by simp; omega
 refine aw_cut (fun F H => ∃ l' : List Seg5, l' = l.take i ++ l.drop (i + 1) ∧ F = [(0, .o 0 0 l'.length c), (7, .c (I l.length))] ∧ H = [.arr 77 5 c (l'.map Seg5.row)]) ?_ ?_ wk_aw
 ·rcases Nat.lt_or_ge (i + 1) c with hic | hic
  ·refine ZZ ?_
   refine aw_regionT [(0, none), (1, none), (2, none), (3, none), (4, none), (5, none), (6, some []), (7, none)] hMixed (by kernel_rfl) ?_
   iterate 2 refine WX2 ?_
   refine ZT rfl (rd_slice (l := 0) (h := i) rfl (KE (t := 50) rfl) rfl rfl (.inl ⟨rfl, rfl⟩) (.inr ⟨_, _, _, rfl, rfl, rfl⟩) (by omega) (by omega) (by omega)) ?_
   iterate 2 refine WX2 ?_
   refine ZT rfl (rd_slice (l := i + 1) (h := l.length) rfl (KE (t := 50) rfl) rfl rfl (.inr ⟨_, _, _, rfl, rfl, rfl⟩) (.inl ⟨rfl, rfl⟩) (by omega) (by omega) (by omega)) ?_
   refine at_ef rfl rfl (ef_appc (b := 0) (n := i) (cap := c) (news := (l.drop (i + 1)).map Seg5.row) rfl rfl (by decide) (KA (t := 50) rfl) rfl rfl (by simp; omega) rfl (Src.own rfl (by rw [Nat.zero_add, ← List.map_drop, List.take_of_length_le (by simp)]) (by (try simp) <;> omega)) (by simp; omega)) ?_
   rintro F1 H1 ⟨_, c2, hc2, hcf, hF, hH⟩
   obtain rfl : c2 = c := hcf (by simp; omega)
   (refine NSU hF hH ?_; clear hF hH; rintro rfl rfl)
   refine ⟨ag_none, ?_⟩
   refine WQ ?_
   refine wk_of [some 0] (fun _ => [(0, .o 0 0 (l.take i ++ l.drop (i + 1)).length _), (7, .c (I l.length))]) (fun _ => [.arr 77 5 _ ((l.take i ++ l.drop (i + 1)).map Seg5.row)]) (by decide) (ZNL hE) (fun _g => .cons rfl (.o rfl (by rw [hlen]; simp)) (.cons rfl (.c rfl) .nil)) (fun _g => .arr rfl hrows .nil) (fun _ => ⟨_, rfl, rfl, rfl⟩)
  ·obtain rfl : c = i + 1 := by omega
   have hdn : l.drop (i + 1) = [] := List.drop_eq_nil_of_le (by omega)
   refine ZZ ?_
   refine aw_regionT [(0, none), (1, none), (2, none), (3, none), (4, none), (5, none), (6, some []), (7, none)] hMixed (by kernel_rfl) ?_
   iterate 2 refine WX2 ?_
   refine ZT rfl (rd_slice (l := 0) (h := i) rfl (KE (t := 50) rfl) rfl rfl (.inl ⟨rfl, rfl⟩) (.inr ⟨_, _, _, rfl, rfl, rfl⟩) (by omega) (by omega) (by omega)) ?_
   iterate 2 refine WX2 ?_
   refine ZT rfl (rd_slicee (l := i + 1) (h := l.length) rfl (KE (t := 50) rfl) rfl rfl (.inr ⟨_, _, _, rfl, rfl, rfl⟩) (.inl ⟨rfl, rfl⟩) (by omega) rfl) ?_
   refine at_ef rfl rfl (ef_appc (b := 0) (n := i) (cap := i + 1) (news := (l.drop (i + 1)).map Seg5.row) rfl rfl (by decide) (KA (t := 50) rfl) rfl rfl (by simp; omega) rfl (Src.own rfl (by rw [hdn]; simp) (by (try simp) <;> omega)) (by simp; omega)) ?_
   rintro F1 H1 ⟨_, c2, hc2, hcf, hF, hH⟩
   obtain rfl : c2 = i + 1 := hcf (by simp; omega)
   (refine NSU hF hH ?_; clear hF hH; rintro rfl rfl)
   refine ⟨ag_none, ?_⟩
   refine WQ ?_
   refine wk_of [some 0] (fun _ => [(0, .o 0 0 (l.take i ++ l.drop (i + 1)).length _), (7, .c (I l.length))]) (fun _ => [.arr 77 5 _ ((l.take i ++ l.drop (i + 1)).map Seg5.row)]) (by decide) (ZNL hE) (fun _g => .cons rfl (.o rfl (by rw [hlen]; simp)) (.cons rfl (.c rfl) .nil)) (fun _g => .arr rfl hrows .nil) (fun _ => ⟨_, rfl, rfl, rfl⟩)
 rintro F H ⟨l', hl', rfl, rfl⟩
 have hll : l'.length + 1 = l.length := by rw [hl', hlen]; omega
 refine ZR ?_
 iterate 4 refine WX1 ?_
 refine ZA (rd_slicex (l := l'.length) (h := l.length) rfl (KE (t := 50) rfl) rfl rfl (.inr ⟨_, _, _, rfl, rfl, rfl⟩) (.inr ⟨_, _, _, rfl, rfl, rfl⟩) (by omega) (by omega) (by omega)) ?_
 refine al_ef rfl (ef_clear rfl rfl (KE (t := 50) rfl) (KZ (t := 77) rfl) rfl rfl rfl rfl (by simp)) ?_
 rintro _ _ ⟨rfl, rfl⟩
 refine WE ?_
 refine WA ?_
 exact aret_o [some 0] (fun _ => [.arr 77 5 c (l'.map Seg5.row)]) rfl rfl rfl rfl rfl (by decide) (ZNK rfl) ZCH (fun _ => ⟨l', hl', rfl, rfl⟩)
theorem segC_v (a b : Seg5) : ACalls Tryz.prog 84 [.a (a.row.map .c), .a (b.row.map .c)] [] fun u H => u = .c (I (sidC a.fr b.fr)) ∧ H = [] := by
 obtain ⟨ai, ⟨af, at_⟩, ⟨a3, a4⟩⟩ := a
 obtain ⟨bi, ⟨bf, bt⟩, ⟨b3, b4⟩⟩ := b
 refine acalls_of (N := 10) Tryz.func84 rfl rfl (by simp) fun E hE => ?_
 refine WA ?_
 refine WR ?_
 refine al_ef rfl (ef_call0 false (fun _ => rcmpS_v ⟨af, at_⟩ ⟨bf, bt⟩) rfl .fn rfl (by decide) (by kernel_rfl) rfl (fun _ => C0 rfl) (by simp)) ?_
 rintro _ _ ⟨_, _, _, ⟨rfl, rfl⟩, hF, hH⟩
 (refine NST hF hH ?_; clear hF hH; rintro rfl rfl)
 refine WE ?_
 exact aret_1 [] _ rfl rfl rfl (by decide) (ZNK rfl) (fun _ => .nil) ⟨rfl, rfl⟩
def segOf : List CV → Seg5
 | [.s (.int _ i), .s (.int _ a), .s (.int _ b), .s (.int _ c), .s (.int _ d)] => ⟨i, ⟨a, b⟩, ⟨c, d⟩⟩
 | _ => ⟨0, ⟨0, 0⟩, ⟨0, 0⟩⟩
theorem sortSeg_v (l : List Seg5) (c : Nat) (hl : l.length ≤ 1000000) :
    ACallsX true Tryz.prog 83 [.o 0 0 l.length c, .f (.func 84) []] [.arr 77 5 c (l.map Seg5.row)] fun u H => ∃ l' : List Seg5, u = .t [] ∧ H = [.arr 77 5 c (l'.map Seg5.row)] ∧ l'.Perm l ∧ l'.map (·.fr) = srtS (l.map (·.fr)) := by
 have h := acalls_sort sortSegL (k := 5) (fun w => Tryz.isAgg77 w) (fun w => Tryz.sizeOf77 w) (fun x => ∃ s : Seg5, x = s.row) (fun x y => sidC (segOf x).fr (segOf y).fr) (g := 84) (by kernel_rfl)
  (by rintro _ ⟨s, rfl⟩; rw [sidC_lt]; omega)
  (by rintro _ _ _ ⟨a, rfl⟩ ⟨b, rfl⟩ ⟨c, rfl⟩; simp only [sidC_lt]; omega)
  (by rintro _ _ _ ⟨a, rfl⟩ ⟨b, rfl⟩ ⟨c, rfl⟩; simp only [sidC_lt]; omega)
  (by rintro _ _ ⟨a, rfl⟩ ⟨b, rfl⟩; exact segC_v a b)
  (l.map Seg5.row) (by intro r hr; obtain ⟨s, _, rfl⟩ := List.mem_map.1 hr; exact ⟨s, rfl⟩) (by simp; omega) (e := 77) (cap := c) (n := l.length) (c := c) (pn := true) (by simp)
 refine ACallsX.mono h fun u H => ?_
 rintro ⟨rows', rfl, rfl, hp, hs⟩
 have h2 := hp.map segOf
 rw [List.map_map, show (segOf ∘ Seg5.row) = id from funext fun s => rfl, List.map_id] at h2
 refine ⟨rows'.map segOf, rfl, ?_, h2, ?_⟩
 ·congr 2
  rw [List.map_map]
  refine (List.map_id _).symm.trans (List.map_congr_left fun r hr => ?_)
  obtain ⟨s, _, rfl⟩ := List.mem_map.1 (hp.subset hr)
  rfl
 ·refine srtS_is (h2.map _) ?_
  rw [List.map_map, List.pairwise_map]
  refine hs.imp fun {x y} h => ?_
  rw [sidC_lt] at h
  simp only [Function.comp]
  unfold leS
  omega
theorem conR_v (p q : Value × Con) (hp : p.2.1 ≠ []) (hq : q.2.1 ≠ []) : ACalls Tryz.prog 93 [.a ((conRow p).map .c), .a ((conRow q).map .c)] [] fun u H => u = .c (I (sidC (hdS p.2) (hdS q.2))) ∧ H = [] := by
 obtain ⟨v, l, b⟩ := p
 obtain ⟨v', l', b'⟩ := q
 cases l with
 | nil => exact absurd rfl hp
 | cons s l =>
  cases l' with
  | nil => exact absurd rfl hq
  | cons s' l' =>
   obtain ⟨sf, st⟩ := s
   obtain ⟨sf', st'⟩ := s'
   have hr1 : (sR ((⟨sf, st⟩ : Sid2) :: l))[0]? = some [I sf, I st] := rfl
   have hr2 : (sR ((⟨sf', st'⟩ : Sid2) :: l'))[0]? = some [I sf', I st'] := rfl
   refine acalls_of (N := 14) Tryz.func93 rfl rfl (by simp) fun E hE => ?_
   refine WA ?_
   refine ZZ ?_
   refine aw_regionT [(0, none), (1, none), (2, none), (3, none), (4, none), (5, none), (6, none), (7, none), (8, some []), (9, none)] hMixed (by kernel_rfl) ?_
   refine WP ?_
   refine at_ef rfl rfl (ef_call0 false (fun _ => rcmpS_v ⟨sf, st⟩ ⟨sf', st'⟩) rfl .fn rfl (by decide) (by kernel_rfl) rfl (fun _ => C0 rfl) (by simp)) ?_
   rintro _ _ ⟨_, _, _, ⟨rfl, rfl⟩, hF, hH⟩
   (refine NST hF hH ?_; clear hF hH; rintro rfl rfl)
   refine ⟨ag_none, ?_⟩
   refine WQ ?_
   all_goals exact aret_1 [] _ rfl rfl rfl (by decide) (ZNK rfl) (fun _ => .nil) ⟨rfl, rfl⟩
theorem sortRon_v (l : List (Value × Con)) (hne : ∀ p ∈ l, p.2.1 ≠ []) (c : Nat) (hl : l.length ≤ 1000000) :
    ACallsX true Tryz.prog 92 [.o 0 0 l.length c, .f (.func 93) []] [.arr 137 2 c (cR l)] fun u H => ∃ l' : List (Value × Con), u = .t [] ∧ H = [.arr 137 2 c (cR l')] ∧ l'.Perm l ∧ (l'.map Prod.snd).Pairwise leC := by
 have h := acalls_sort sortRonL (k := 2) (fun w => Tryz.isAgg137 w) (fun w => Tryz.sizeOf137 w) (fun x => ∃ p : Value × Con, p.2.1 ≠ [] ∧ x = conRow p) (fun x y => sidC (hdS (conOf x).2) (hdS (conOf y).2)) (g := 93) (by kernel_rfl)
  (by rintro _ ⟨s, _, rfl⟩; rw [sidC_lt]; omega)
  (by rintro _ _ _ ⟨a, _, rfl⟩ ⟨b, _, rfl⟩ ⟨c, _, rfl⟩; simp only [sidC_lt]; omega)
  (by rintro _ _ _ ⟨a, _, rfl⟩ ⟨b, _, rfl⟩ ⟨c, _, rfl⟩; simp only [sidC_lt]; omega)
  (by rintro _ _ ⟨a, ha, rfl⟩ ⟨b, hb, rfl⟩; rw [conOf_row, conOf_row]; exact conR_v a b ha hb)
  (cR l) (by intro r hr; obtain ⟨p, hp, rfl⟩ := List.mem_map.1 hr; exact ⟨p, hne p hp, rfl⟩) (by simp; omega) (e := 137) (cap := c) (n := l.length) (c := c) (pn := true) (by simp)
 refine ACallsX.mono h fun u H => ?_
 rintro ⟨rows', rfl, rfl, hp, hs⟩
 have h2 := hp.map conOf
 rw [cR, List.map_map, show (conOf ∘ conRow) = id from funext conOf_row, List.map_id] at h2
 refine ⟨rows'.map conOf, rfl, ?_, h2, ?_⟩
 ·congr 2
  rw [cR, List.map_map]
  refine (List.map_id _).symm.trans (List.map_congr_left fun r hr => ?_)
  obtain ⟨p, _, rfl⟩ := List.mem_map.1 (hp.subset hr)
  exact congrArg conRow (conOf_row p).symm
 ·rw [List.map_map, List.pairwise_map]
  refine hs.imp fun {x y} h => leC_of ?_
  rw [sidC_lt] at h
  simp only [Function.comp]
  unfold leS
  omega
end Go.Proofs.YtlblimbelfenaaaGreat

/- The reference's closures over segments, by value. -/
-- NEWM
namespace Go.Proofs.YtlblimbelfenaaaGreat
open Go Go.RowKit
set_option maxRecDepth 100000
abbrev gR (L : List Seg5) : List (List CV) := L.map Seg5.row
abbrev sB (t : Sid2) : OB := .box (t.row.map .c)
abbrev gB (g : Seg5) : OB := .box (g.row.map .c)
def frIs (t : Sid2) (g : Seg5) : Bool := decide (g.fr = t)
def toIs (t : Sid2) (g : Seg5) : Bool := decide (g.to = t)
theorem dec_sid (a b c d : Int) : decide (a = c ∧ b = d) = decide ((⟨a, b⟩ : Sid2) = ⟨c, d⟩) := by simp
theorem eqTo_v (g : Seg5) (t : Sid2) : ACalls Tryz.prog 88 [.a (g.row.map .c), .p 0 0 0] [sB t] fun u H => u = .c (B (frIs t g)) ∧ H = [sB t] := by
 obtain ⟨gi, ⟨g1, g2⟩, ⟨g3, g4⟩⟩ := g
 obtain ⟨tf, tt⟩ := t
 refine acalls_of (N := 8) Tryz.func88 rfl rfl (by simp) fun E hE => ?_
 refine WA ?_
 refine WA ?_
 exact aret_1 [some 0] _ rfl rfl rfl (by decide) (ZNK rfl) ZCH ⟨by rw [dec_sid]; rfl, rfl⟩
theorem eqFr_v (g : Seg5) (s : Seg5) : ACalls Tryz.prog 91 [.a (g.row.map .c), .p 0 0 0] [gB s] fun u H => u = .c (B (toIs s.fr g)) ∧ H = [gB s] := by
 obtain ⟨gi, ⟨g1, g2⟩, ⟨g3, g4⟩⟩ := g
 obtain ⟨si, ⟨s1, s2⟩, ⟨s3, s4⟩⟩ := s
 refine acalls_of (N := 9) Tryz.func91 rfl rfl (by simp) fun E hE => ?_
 refine WA ?_
 refine WA ?_
 exact aret_1 [some 0] _ rfl rfl rfl (by decide) (ZNK rfl) ZCH ⟨by rw [dec_sid]; rfl, rfl⟩
set_option maxHeartbeats 2000000 in
theorem idxTo_v (L : List Seg5) (c : Nat) (t : Sid2) (hl : L.length ≤ 1000000) : ACallsX true Tryz.prog 87 [.o 0 0 L.length c, .f (.func 88) [.p 1 0 0]] [.arr 77 5 c (gR L), sB t] fun u H => ∃ r : Int, u = .c (I r) ∧ H = [.arr 77 5 c (gR L), sB t] ∧ (r < 0 → ∀ g ∈ L, (frIs t) g = false) ∧ (0 ≤ r → ∃ i : Nat, r = i ∧ (∃ g, L[i]? = some g ∧ (frIs t) g = true) ∧ ∀ j < i, ∀ g, L[j]? = some g → (frIs t) g = false) := by
 have e1 : (gR L).length = L.length := by simp
 refine acallsx_of true (N := 19) Tryz.func87 rfl rfl (by simp) fun E hE hP => ?_
 refine WA ?_
 refine WA ?_
 refine aw_loopw (fun m F H => ∃ (k : Nat), m + k = L.length ∧ (∀ j < k, ∀ g, L[j]? = some g → (frIs t) g = false) ∧ F = [(0, .o 0 0 L.length c), (1, .f (.func 88) [.p 1 0 0]), (7, .c (I L.length)), (8, .c (I k))] ∧ H = [.arr 77 5 c (gR L), sB t]) ?_ ?_
 ·refine wk_of [some 0, some 1] (fun _ => [(0, .o 0 0 L.length c), (1, .f (.func 88) [.p 1 0 0]), (7, .c (I L.length)), (8, .c (I (0 : Nat)))]) (fun _ => [.arr 77 5 c (gR L), sB t]) (by decide) (ZNL hE) ZCF ZCH (fun _ => ?_)
  exact ⟨L.length, 0, by omega, fun j hj => absurd hj (Nat.not_lt_zero j), rfl, rfl⟩
 rintro m F H ⟨k, hk, hf, rfl, rfl⟩
 refine WA ?_
 refine aw_if rfl (fun hlt => ?_) (fun hge => ?_)
 ·obtain ⟨g, hg⟩ : ∃ e, L[k]? = some e := ⟨_, List.getElem?_eq_getElem (by omega)⟩
  obtain ⟨gi, ⟨g1, g2⟩, ⟨g3, g4⟩⟩ := g
  have hrow : (gR L)[0 + k]? = some [I gi, I g1, I g2, I g3, I g4] := by rw [Nat.zero_add, List.getElem?_map, hg]; rfl
  refine WA ?_
  refine WR ?_
  refine al_ef rfl (ef_call [1] (fun _ => [sB t]) false (fun _ => eqTo_v ⟨gi, ⟨g1, g2⟩, ⟨g3, g4⟩⟩ t) rfl (.clo rfl) rfl (by decide) (by kernel_rfl) rfl ZCH (by decide) ZCH (by simp)) ?_
  rintro F1 H1 ⟨_, _, _, _, ⟨rfl, rfl⟩, hF, hH⟩
  (refine NSU hF hH ?_; clear hF hH; rintro rfl rfl)
  refine WE ?_
  refine aw_cond rfl (fun hp => ?_) (fun hp => ?_)
  ·refine WA ?_
   exact aret_1 [some 0, some 1] _ rfl rfl rfl (by decide) (ZNK rfl) ZCH ⟨_, rfl, rfl, by omega, fun _ => ⟨k, rfl, ⟨_, hg, hp⟩, hf⟩⟩
  ·refine ZZ ?_
   refine WA ?_
   refine wk_of [some 0, some 1] (fun _ => [(0, .o 0 0 L.length c), (1, .f (.func 88) [.p 1 0 0]), (7, .c (I L.length)), (8, .c (I (k + 1 : Nat)))]) (fun _ => [.arr 77 5 c (gR L), sB t]) (by decide) (ZNL hE) ZCF ZCH (fun _ => ?_)
   refine ⟨m - 1, by omega, k + 1, by omega, fun j hj g hg2 => ?_, rfl, rfl⟩
   rcases Nat.lt_or_ge j k with h | h
   ·exact hf j h g hg2
   ·obtain rfl : j = k := by omega
    rw [hg] at hg2
    injection hg2 with hg2
    rw [← hg2]; exact hp
 refine WA ?_
 exact aret_1 [some 0, some 1] _ rfl rfl rfl (by decide) (ZNK rfl) ZCH ⟨_, rfl, rfl, fun _ g hg => (by
  obtain ⟨j, hj, e⟩ := List.getElem_of_mem hg
  exact hf j (by omega) g (by rw [List.getElem?_eq_getElem hj, e])), by omega⟩
set_option maxHeartbeats 2000000 in
theorem idxFr_v (L : List Seg5) (c : Nat) (s : Seg5) (hl : L.length ≤ 1000000) : ACallsX true Tryz.prog 87 [.o 0 0 L.length c, .f (.func 91) [.p 1 0 0]] [.arr 77 5 c (gR L), gB s] fun u H => ∃ r : Int, u = .c (I r) ∧ H = [.arr 77 5 c (gR L), gB s] ∧ (r < 0 → ∀ g ∈ L, (toIs s.fr) g = false) ∧ (0 ≤ r → ∃ i : Nat, r = i ∧ (∃ g, L[i]? = some g ∧ (toIs s.fr) g = true) ∧ ∀ j < i, ∀ g, L[j]? = some g → (toIs s.fr) g = false) := by
 have e1 : (gR L).length = L.length := by simp
 refine acallsx_of true (N := 19) Tryz.func87 rfl rfl (by simp) fun E hE hP => ?_
 refine WA ?_
 refine WA ?_
 refine aw_loopw (fun m F H => ∃ (k : Nat), m + k = L.length ∧ (∀ j < k, ∀ g, L[j]? = some g → (toIs s.fr) g = false) ∧ F = [(0, .o 0 0 L.length c), (1, .f (.func 91) [.p 1 0 0]), (7, .c (I L.length)), (8, .c (I k))] ∧ H = [.arr 77 5 c (gR L), gB s]) ?_ ?_
 ·refine wk_of [some 0, some 1] (fun _ => [(0, .o 0 0 L.length c), (1, .f (.func 91) [.p 1 0 0]), (7, .c (I L.length)), (8, .c (I (0 : Nat)))]) (fun _ => [.arr 77 5 c (gR L), gB s]) (by decide) (ZNL hE) ZCF ZCH (fun _ => ?_)
  exact ⟨L.length, 0, by omega, fun j hj => absurd hj (Nat.not_lt_zero j), rfl, rfl⟩
 rintro m F H ⟨k, hk, hf, rfl, rfl⟩
 refine WA ?_
 refine aw_if rfl (fun hlt => ?_) (fun hge => ?_)
 ·obtain ⟨g, hg⟩ : ∃ e, L[k]? = some e := ⟨_, List.getElem?_eq_getElem (by omega)⟩
  obtain ⟨gi, ⟨g1, g2⟩, ⟨g3, g4⟩⟩ := g
  have hrow : (gR L)[0 + k]? = some [I gi, I g1, I g2, I g3, I g4] := by rw [Nat.zero_add, List.getElem?_map, hg]; rfl
  refine WA ?_
  refine WR ?_
  refine al_ef rfl (ef_call [1] (fun _ => [gB s]) false (fun _ => eqFr_v ⟨gi, ⟨g1, g2⟩, ⟨g3, g4⟩⟩ s) rfl (.clo rfl) rfl (by decide) (by kernel_rfl) rfl ZCH (by decide) ZCH (by simp)) ?_
  rintro F1 H1 ⟨_, _, _, _, ⟨rfl, rfl⟩, hF, hH⟩
  (refine NSU hF hH ?_; clear hF hH; rintro rfl rfl)
  refine WE ?_
  refine aw_cond rfl (fun hp => ?_) (fun hp => ?_)
  ·refine WA ?_
   exact aret_1 [some 0, some 1] _ rfl rfl rfl (by decide) (ZNK rfl) ZCH ⟨_, rfl, rfl, by omega, fun _ => ⟨k, rfl, ⟨_, hg, hp⟩, hf⟩⟩
  ·refine ZZ ?_
   refine WA ?_
   refine wk_of [some 0, some 1] (fun _ => [(0, .o 0 0 L.length c), (1, .f (.func 91) [.p 1 0 0]), (7, .c (I L.length)), (8, .c (I (k + 1 : Nat)))]) (fun _ => [.arr 77 5 c (gR L), gB s]) (by decide) (ZNL hE) ZCF ZCH (fun _ => ?_)
   refine ⟨m - 1, by omega, k + 1, by omega, fun j hj g hg2 => ?_, rfl, rfl⟩
   rcases Nat.lt_or_ge j k with h | h
   ·exact hf j h g hg2
   ·obtain rfl : j = k := by omega
    rw [hg] at hg2
    injection hg2 with hg2
    rw [← hg2]; exact hp
 refine WA ?_
 exact aret_1 [some 0, some 1] _ rfl rfl rfl (by decide) (ZNK rfl) ZCH ⟨_, rfl, rfl, fun _ g hg => (by
  obtain ⟨j, hj, e⟩ := List.getElem_of_mem hg
  exact hf j (by omega) g (by rw [List.getElem?_eq_getElem hj, e])), by omega⟩
theorem hasFr_v (L : List Seg5) (c : Nat) (s : Seg5) (hl : L.length ≤ 1000000) : ACallsX true Tryz.prog 90 [.o 0 0 L.length c, .f (.func 91) [.p 1 0 0]] [.arr 77 5 c (gR L), gB s] fun u H => u = .c (B (L.any (toIs s.fr))) ∧ H = [.arr 77 5 c (gR L), gB s] := by
 refine acallsx_of true (N := 9) Tryz.func90 rfl rfl (by simp) fun E hE hP => ?_
 refine WA ?_
 refine WR ?_
 refine al_ef rfl (ef_callp [0, 1] (fun _ => [.arr 77 5 c (gR L), gB s]) false (fun _ => idxFr_v L c s hl) rfl .fn rfl (by decide) (by kernel_rfl) rfl ZCH (by decide) ZCH (by simp)) ?_
 rintro F1 H1 ⟨_, _, _, _, ⟨r, rfl, rfl, hr1, hr2⟩, hF, hH⟩
 rw [killF_nil] at hF; (refine NSU hF hH ?_; clear hF hH; rintro rfl rfl)
 refine WE ?_
 refine aret_1 [some 0, some 1] _ rfl rfl rfl (by decide) (ZNK rfl) ZCH ⟨congrArg (fun z => AV.c (B z)) ?_, rfl⟩
 by_cases h : 0 ≤ r
 ·obtain ⟨i, _, ⟨g, hg, hp⟩, _⟩ := hr2 h
  rw [List.any_eq_true.2 ⟨g, List.mem_of_getElem? hg, hp⟩]
  simp; omega
 ·have : L.any (toIs s.fr) = false := by
   rw [List.any_eq_false]
   intro g hg
   rw [hr1 (by omega) g hg]; simp
  rw [this]; simp; omega
def opnB (L : List Seg5) (s : Seg5) : Bool := !(L.any (toIs s.fr))
theorem isOpn_v (L : List Seg5) (c : Nat) (s : Seg5) (hl : L.length ≤ 1000000) : ACallsX true Tryz.prog 89 [.a (s.row.map .c), .p 0 0 0] [.box [.o 1 0 L.length c], .arr 77 5 c (gR L)] fun u H => u = .c (B (opnB L s)) ∧ H = [.box [.o 1 0 L.length c], .arr 77 5 c (gR L)] := by
 obtain ⟨si, ⟨s1, s2⟩, ⟨s3, s4⟩⟩ := s
 refine acallsx_of true (N := 8) Tryz.func89 rfl rfl (by simp) fun E hE hP => ?_
 refine WA ?_
 refine WR ?_
 refine al_ef rfl (ef_callp [1, 2] (fun _ => [.arr 77 5 c (gR L), gB ⟨si, ⟨s1, s2⟩, ⟨s3, s4⟩⟩]) false (fun _ => hasFr_v L c ⟨si, ⟨s1, s2⟩, ⟨s3, s4⟩⟩ hl) rfl .fn rfl (by decide) (by kernel_rfl) rfl ZCH (by decide) ZCH (by simp)) ?_
 rintro F1 H1 ⟨_, _, _, _, ⟨rfl, rfl⟩, hF, hH⟩
 rw [killF_nil] at hF; (refine NSU hF hH ?_; clear hF hH; rintro rfl rfl)
 refine WE ?_
 exact aret_1 [some 0, some 1] _ rfl rfl rfl (by decide) (ZNK rfl) ZCH ⟨rfl, rfl⟩
set_option maxHeartbeats 2000000 in
theorem idxOp_v (L : List Seg5) (c : Nat) (_ : True) (hl : L.length ≤ 1000000) : ACallsX true Tryz.prog 87 [.o 1 0 L.length c, .f (.func 89) [.p 0 0 0]] [.box [.o 1 0 L.length c], .arr 77 5 c (gR L)] fun u H => ∃ r : Int, u = .c (I r) ∧ H = [.box [.o 1 0 L.length c], .arr 77 5 c (gR L)] ∧ (r < 0 → ∀ g ∈ L, (opnB L) g = false) ∧ (0 ≤ r → ∃ i : Nat, r = i ∧ (∃ g, L[i]? = some g ∧ (opnB L) g = true) ∧ ∀ j < i, ∀ g, L[j]? = some g → (opnB L) g = false) := by
 have e1 : (gR L).length = L.length := by simp
 refine acallsx_of true (N := 19) Tryz.func87 rfl rfl (by simp) fun E hE hP => ?_
 refine WA ?_
 refine WA ?_
 refine aw_loopw (fun m F H => ∃ (k : Nat), m + k = L.length ∧ (∀ j < k, ∀ g, L[j]? = some g → (opnB L) g = false) ∧ F = [(0, .o 1 0 L.length c), (1, .f (.func 89) [.p 0 0 0]), (7, .c (I L.length)), (8, .c (I k))] ∧ H = [.box [.o 1 0 L.length c], .arr 77 5 c (gR L)]) ?_ ?_
 ·refine wk_of [some 0, some 1] (fun _ => [(0, .o 1 0 L.length c), (1, .f (.func 89) [.p 0 0 0]), (7, .c (I L.length)), (8, .c (I (0 : Nat)))]) (fun _ => [.box [.o 1 0 L.length c], .arr 77 5 c (gR L)]) (by decide) (ZNL hE) ZCF ZCH (fun _ => ?_)
  exact ⟨L.length, 0, by omega, fun j hj => absurd hj (Nat.not_lt_zero j), rfl, rfl⟩
 rintro m F H ⟨k, hk, hf, rfl, rfl⟩
 refine WA ?_
 refine aw_if rfl (fun hlt => ?_) (fun hge => ?_)
 ·obtain ⟨g, hg⟩ : ∃ e, L[k]? = some e := ⟨_, List.getElem?_eq_getElem (by omega)⟩
  obtain ⟨gi, ⟨g1, g2⟩, ⟨g3, g4⟩⟩ := g
  have hrow : (gR L)[0 + k]? = some [I gi, I g1, I g2, I g3, I g4] := by rw [Nat.zero_add, List.getElem?_map, hg]; rfl
  refine WA ?_
  refine WR ?_
  refine al_ef rfl (ef_callp [0, 1] (fun _ => [.box [.o 1 0 L.length c], .arr 77 5 c (gR L)]) false (fun _ => isOpn_v L c ⟨gi, ⟨g1, g2⟩, ⟨g3, g4⟩⟩ hl) rfl (.clo rfl) rfl (by decide) (by kernel_rfl) rfl ZCH (by decide) ZCH (by simp)) ?_
  rintro F1 H1 ⟨_, _, _, _, ⟨rfl, rfl⟩, hF, hH⟩
  rw [killF_nil] at hF; (refine NSU hF hH ?_; clear hF hH; rintro rfl rfl)
  refine WE ?_
  refine aw_cond rfl (fun hp => ?_) (fun hp => ?_)
  ·refine WA ?_
   exact aret_1 [some 0, some 1] _ rfl rfl rfl (by decide) (ZNK rfl) ZCH ⟨_, rfl, rfl, by omega, fun _ => ⟨k, rfl, ⟨_, hg, hp⟩, hf⟩⟩
  ·refine ZZ ?_
   refine WA ?_
   refine wk_of [some 0, some 1] (fun _ => [(0, .o 1 0 L.length c), (1, .f (.func 89) [.p 0 0 0]), (7, .c (I L.length)), (8, .c (I (k + 1 : Nat)))]) (fun _ => [.box [.o 1 0 L.length c], .arr 77 5 c (gR L)]) (by decide) (ZNL hE) ZCF ZCH (fun _ => ?_)
   refine ⟨m - 1, by omega, k + 1, by omega, fun j hj g hg2 => ?_, rfl, rfl⟩
   rcases Nat.lt_or_ge j k with h | h
   ·exact hf j h g hg2
   ·obtain rfl : j = k := by omega
    rw [hg] at hg2
    injection hg2 with hg2
    rw [← hg2]; exact hp
 refine WA ?_
 exact aret_1 [some 0, some 1] _ rfl rfl rfl (by decide) (ZNK rfl) ZCH ⟨_, rfl, rfl, fun _ g hg => (by
  obtain ⟨j, hj, e⟩ := List.getElem_of_mem hg
  exact hf j (by omega) g (by rw [List.getElem?_eq_getElem hj, e])), by omega⟩
end Go.Proofs.YtlblimbelfenaaaGreat
