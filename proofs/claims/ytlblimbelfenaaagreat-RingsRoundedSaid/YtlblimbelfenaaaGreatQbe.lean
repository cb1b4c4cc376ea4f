/- slices.Delete of faces, by value. -/
import Derived.Test.YtlblimbelfenaaaGreatQay
import Derived.Test.YtlblimbelfenaaaGreatQat
import Derived.Test.YtlblimbelfenaaaGreatQal
set_option linter.unusedSimpArgs false
set_option linter.unusedVariables false
/- The contours of the program, by value: two maps, a pass for the open rows, a pass for the closed ones. -/
-- NEWM
namespace Go.Proofs.YtlblimbelfenaaaGreat
open Go Go.RowKit
set_option maxRecDepth 100000
theorem rd_hasS {N : Nat} {E : Env} {o : Oper} {F : Fm} {H : List OB} {t kt : TypeId} {x ix : Operand} {b ck : Nat} {l : List (Nat × Sid2 × Bool)} {kf kt' : Int} {r : Bool} (hb : (mget l ⟨kf, kt'⟩).getD false = r) (ho : o.op = .lookup t x ix false) (ht : Tryz.prog.underlying t = some (.map 70 kt)) (hz : (Tryz.prog.info? kt).bind (·.zero) = some (.bool false))
    (hx : ev F x = some (.mp b)) (hH : H[b]? = some (mpO encS encB l ck)) (hi : ev F ix = some (.a [.c (I kf), .c (I kt')])) : Rd Tryz.prog N E o F H (.c (B r)) := by
 subst hb
 exact rd_lookup (ke := encS) (ve := encB) (k := ⟨kf, kt'⟩) (z := false) keyS ho ht hz hx hH hi (fun ρ H => by simp [AV.den, AV.denL, CV.den, encS])
theorem rd_nextS {N : Nat} {E : Env} {o : Oper} {F : Fm} {H : List OB} {t kt : TypeId} {x ix : Operand} {b ck : Nat} {l : List (Nat × Sid2 × Sid2)} {kf kt' : Int} {r : Option Sid2} (hb : mget l ⟨kf, kt'⟩ = r) (ho : o.op = .lookup t x ix true) (ht : Tryz.prog.underlying t = some (.map 70 kt)) (hz : (Tryz.prog.info? kt).bind (·.zero) = some (.agg #[.int .i64 0, .int .i64 0]))
    (hx : ev F x = some (.mp b)) (hH : H[b]? = some (mpO encS encS l ck)) (hi : ev F ix = some (.a [.c (I kf), .c (I kt')])) : Rd Tryz.prog N E o F H (.t [.a ((r.getD ⟨0, 0⟩).row.map .c), .c (B r.isSome)]) := by
 subst hb
 exact rd_lookupk (ke := encS) (ve := encS) (k := ⟨kf, kt'⟩) (z := ⟨0, 0⟩) keyS ho ht hz hx hH hi (fun ρ H => by simp [AV.den, AV.denL, CV.den, encS])
set_option maxHeartbeats 16000000 in
theorem contours_p (v w : Value) (V : List Vec3) (Fs : List Fac3) (z : Int) (hM : MOk V Fs) : ACalls Tryz.prog 76 [mshA v w V Fs, .c (I z)] [] fun u H => ∃ (q : Value) (l : List (Value × Con)), u = .c (.r q (cR l)) ∧ H = [] ∧ IsConts (sgL V Fs z) (l.map Prod.snd) := by
 have hlf := hM.lf
 have hok := sgL_ok (z := z) hM
 have hSl := sgL_len V Fs z
 refine acalls_of (N := 106) Tryz.func76 rfl rfl (by simp) fun E hE => ?_
 refine WA ?_
 refine ZR ?_
 refine al_ef rfl (ef_mkmap rfl rfl (by decide)) ?_
 rintro _ _ ⟨rfl, rfl⟩
 refine WE ?_
 refine ZR ?_
 refine al_ef rfl (ef_mkmap rfl rfl (by decide)) ?_
 rintro _ _ ⟨rfl, rfl⟩
 refine WE ?_
 refine WA ?_
 refine WR ?_
 refine al_ef rfl (ef_call0 false (fun _ => segments_p v w V Fs z hM) rfl .fn rfl (by decide) (by kernel_rfl) rfl (fun _ => C0 rfl) (by simp)) ?_
 rintro _ _ ⟨_, _, _, ⟨q, rfl, rfl⟩, hF, hH⟩
 (refine NST hF hH ?_; clear hF hH; rintro rfl rfl)
 refine WE ?_
 generalize sgL V Fs z = S at hok hSl ⊢
 have e5 : (S.map Seg5.row).length = S.length := by simp
 refine aw_loopw (fun m F H => ∃ (k c nk fk : Nat) (L : List Sid2) (nl : List (Nat × Sid2 × Sid2)) (fl : List (Nat × Sid2 × Bool)), m + k = S.length ∧ L.length = k ∧ L = (S.take k).map (·.fr) ∧ (∀ s, mget nl s = nxt (S.take k) s) ∧ (∀ s, (mget fl s).getD false = folB (S.take k) s) ∧ F = [(5, .mp 0), (6, .mp 1), (7, .o 2 0 L.length c), (23, .c (.r q (S.map Seg5.row))), (24, .c (I (S.map Seg5.row).length)), (25, .c (I k))] ∧ H = [mpO encS encS nl nk, mpO encS encB fl fk, .arr 70 2 c (sR L)]) ?_ ?_
 ·refine wk_of [some 1, some 2, none] (fun _ => [(5, .mp 0), (6, .mp 1), (7, .o 2 0 0 0), (23, .c (.r q (S.map Seg5.row))), (24, .c (I (S.map Seg5.row).length)), (25, .c (I (0 : Nat)))]) (fun _ => [mpO encS encS [] 0, mpO encS encB [] 0, .arr 70 2 0 []]) (by decide) (ZNL hE) ZCF ZCH (fun _ => ?_)
  exact ⟨S.length, 0, 0, 0, 0, [], [], [], by omega, rfl, rfl, fun s => rfl, fun s => rfl, rfl, rfl⟩
 rintro m F H ⟨k, c, nk, fk, L, nl, fl, hk, hLk, hLe, hnl, hfl, rfl, rfl⟩
 refine WA ?_
 refine aw_if rfl (fun hlt => ?_) (fun hge => ?_)
 ·obtain ⟨g, hg⟩ : ∃ z, S[k]? = some z := ⟨_, List.getElem?_eq_getElem (by omega)⟩
  have ht := take_snoc hg
  have hnd := nodup_take hok.fr (k + 1)
  have hn1 : ∀ s, mget (mset nk g.fr g.to nl) s = nxt (S.take (k + 1)) s := fun s => by
   rw [mget_mset, ht, nxt_snoc (by rw [← ht]; exact hnd), hnl]
  have hf1 : ∀ s, (mget (mset fk g.to true fl) s).getD false = folB (S.take (k + 1)) s := fun s => by
   rw [mget_mset, ht, folB_snoc, ← hfl]
   split <;> rfl
  have hL1 : L ++ [g.fr] = (S.take (k + 1)).map (·.fr) := by rw [ht, List.map_append, ← hLe]; rfl
  obtain ⟨gi, ⟨g1, g2⟩, ⟨g3, g4⟩⟩ := g
  have hrow : (S.map Seg5.row)[k]? = some [I gi, I g1, I g2, I g3, I g4] := by rw [List.getElem?_map, hg]; rfl
  refine WA ?_
  refine ZR ?_
  iterate 5 refine WX1 ?_
  refine al_ef rfl (ef_mapset (ke := encS) (ve := encS) (k := ⟨g1, g2⟩) (z := ⟨g3, g4⟩) (l := nl) (ck := nk) keyS rfl rfl Tryz.underlying181 rfl rfl rfl (fun ρ H => by simp [AV.den, AV.denL, CV.den, encS]) rfl (fun ρ H => by simp [AV.den, AV.denL, CV.den, encS])) ?_
  rintro _ _ ⟨rfl, rfl⟩
  refine WE ?_
  refine ZR ?_
  iterate 3 refine WX1 ?_
  refine al_ef rfl (ef_mapset (ke := encS) (ve := encB) (k := ⟨g3, g4⟩) (z := true) (l := fl) (ck := fk) keyS rfl rfl Tryz.underlying182 rfl rfl rfl (fun ρ H => by simp [AV.den, AV.denL, CV.den, encS]) rfl (fun ρ H => rfl)) ?_
  rintro _ _ ⟨rfl, rfl⟩
  refine WE ?_
  refine WR ?_
  refine al_ef rfl (Zapp (KA (t := 57) rfl)) ?_
  rintro _ _ ⟨_, cc, hcc, rfl, rfl⟩
  refine WE ?_
  refine WA ?_
  refine wk_of [some 0, some 1, some 2] (fun _ => [(5, .mp 0), (6, .mp 1), (7, .o 2 0 (L ++ [(⟨g1, g2⟩ : Sid2)]).length cc), (23, .c (.r q (S.map Seg5.row))), (24, .c (I (S.map Seg5.row).length)), (25, .c (I (k + 1 : Nat)))]) (fun _ => [mpO encS encS (mset nk ⟨g1, g2⟩ ⟨g3, g4⟩ nl) (mclk nk ⟨g1, g2⟩ nl), mpO encS encB (mset fk ⟨g3, g4⟩ true fl) (mclk fk ⟨g3, g4⟩ fl), .arr 70 2 cc (sR L ++ [[I g1, I g2]])]) (by decide) (ZNL hE) ZCF ZCH (fun _ => ?_)
  exact ⟨m - 1, by omega, k + 1, cc, mclk nk ⟨g1, g2⟩ nl, mclk fk ⟨g3, g4⟩ fl, L ++ [⟨g1, g2⟩], mset nk ⟨g1, g2⟩ ⟨g3, g4⟩ nl, mset fk ⟨g3, g4⟩ true fl, by omega, by simp; omega, hL1, hn1, hf1, rfl, by simp [sR]⟩
 obtain rfl : k = S.length := by omega
 rw [List.take_of_length_le (Nat.le_refl _)] at hLe hnl hfl
 refine ZZ ?_
 refine WR ?_
 refine al_ef rfl (ef_callp [2] (fun _ => [.arr 70 2 c (sR L)]) false (fun _ => sortY_v 73 (by kernel_rfl) cmpS_v L c (by omega)) rfl .fn rfl (by decide) (by kernel_rfl) rfl ZCH (by decide) (fun _ => .arr rfl rfl .nil) (by simp)) ?_
 rintro F1 H1 ⟨_, _, _, _, ⟨rfl, rfl⟩, hF, hH⟩
 rw [killF_nil] at hF; (refine NSU hF hH ?_; clear hF hH; rintro rfl rfl)
 refine WE ?_
 obtain ⟨l, hl⟩ : ∃ l, l = srtS L := ⟨_, rfl⟩
 rw [← hl]
 have hl2 : l = srtS (S.map (·.fr)) := by rw [hl, hLe]
 have hll : l.length = S.length := by rw [hl, srtS_len, hLk]
 have hLl : L.length = l.length := by rw [hl, srtS_len]
 rw [hLl]
 clear hl hLe hLk hLl
 refine ZR ?_
 refine al_ef rfl (ef_mkmap rfl rfl (by decide)) ?_
 rintro _ _ ⟨rfl, rfl⟩
 refine WE ?_
 refine WA ?_
 refine WA ?_
 refine aw_loopw (fun m F H => ∃ (j co sk : Nat) (sl : List (Nat × Sid2 × Bool)) (O : List (Value × Con)) (sn : List Sid2), m + j = 2 ∧ O.length ≤ j * 1000 ∧ (∀ s, (mget sl s).getD false = sn.contains s) ∧ (j = 0 → O = [] ∧ sn = []) ∧ (j = 1 → PassP (nxt S) (folB S) false l [] (O.map Prod.snd) sn) ∧ (j = 2 → ∃ o1 s1 o2, PassP (nxt S) (folB S) false l [] o1 s1 ∧ PassP (nxt S) (folB S) true l s1 o2 sn ∧ O.map Prod.snd = o1 ++ o2) ∧ F = [(5, .mp 0), (6, .mp 1), (7, .o 2 0 l.length c), (10, .mp 3), (11, .o 4 0 O.length co), (46, .o 5 0 2 2), (47, .c (I 2)), (48, .c (I j))] ∧ H = [mpO encS encS nl nk, mpO encS encB fl fk, .arr 70 2 c (sR l), mpO encS encB sl sk, .arr 127 2 co (cR O), .arr 4 1 2 [[B false], [B true]]]) ?_ ?_
 ·refine wk_of [some 0, some 1, some 2, some 3, none, some 4] (fun _ => [(5, .mp 0), (6, .mp 1), (7, .o 2 0 l.length c), (10, .mp 3), (11, .o 4 0 0 0), (46, .o 5 0 2 2), (47, .c (I 2)), (48, .c (I (0 : Nat)))]) (fun _ => [mpO encS encS nl nk, mpO encS encB fl fk, .arr 70 2 c (sR l), mpO encS encB [] 0, .arr 127 2 0 [], .arr 4 1 2 [[B false], [B true]]]) (by decide) (ZNL hE) ZCF ZCH (fun _ => ?_)
  exact ⟨2, 0, 0, 0, [], [], [], rfl, by simp, fun s => rfl, fun _ => ⟨rfl, rfl⟩, by omega, by omega, rfl, rfl⟩
 rintro m2 F H ⟨j, co, sk, sl, O, sn, hj, hO, hsl, hj0, hj1, hj2, rfl, rfl⟩
 refine WA ?_
 refine aw_if rfl (fun hlt2 => ?_) (fun hge2 => ?_)
 ·obtain ⟨is, his⟩ : ∃ b : Bool, b = decide (j = 1) := ⟨_, rfl⟩
  have hrowb : ([[B false], [B true]] : List (List CV))[0 + j]? = some [B is] := by
   have : j = 0 ∨ j = 1 := by omega
   rcases this with rfl | rfl <;> (subst his; rfl)
  have hst : (is = false ∧ j = 0 ∧ O.map Prod.snd = [] ∧ sn = []) ∨ (is = true ∧ j = 1 ∧ PassP (nxt S) (folB S) false l [] (O.map Prod.snd) sn) := by
   have : j = 0 ∨ j = 1 := by omega
   rcases this with h | h
   ·obtain ⟨h1, h2⟩ := hj0 h
    exact .inl ⟨by rw [his, h]; rfl, h, by rw [h1]; rfl, h2⟩
   ·exact .inr ⟨by rw [his, h]; rfl, h, hj1 h⟩
  clear his hj0 hj1 hj2
  generalize hO0 : O.map Prod.snd = O0 at hst
  generalize hsn0 : sn = sn0 at hst
  refine WA ?_
  refine WA ?_
  refine aw_loopw (fun m F H => ∃ (i co sk : Nat) (sl : List (Nat × Sid2 × Bool)) (O : List (Value × Con)) (sn : List Sid2) (o : List Con), m + i = l.length ∧ O.length ≤ j * 1000 + i ∧ (∀ s, (mget sl s).getD false = sn.contains s) ∧ PassP (nxt S) (folB S) is (l.take i) sn0 o sn ∧ O.map Prod.snd = O0 ++ o ∧ F = [(5, .mp 0), (6, .mp 1), (7, .o 2 0 l.length c), (10, .mp 3), (11, .o 4 0 O.length co), (46, .o 5 0 2 2), (47, .c (I 2)), (13, .c (B is)), (48, .c (I j)), (52, .o 2 0 l.length c), (53, .c (I l.length)), (54, .c (I i))] ∧ H = [mpO encS encS nl nk, mpO encS encB fl fk, .arr 70 2 c (sR l), mpO encS encB sl sk, .arr 127 2 co (cR O), .arr 4 1 2 [[B false], [B true]]]) ?_ ?_
  ·refine wk_of [some 0, some 1, some 2, some 3, some 4, some 5] (fun _ => [(5, .mp 0), (6, .mp 1), (7, .o 2 0 l.length c), (10, .mp 3), (11, .o 4 0 O.length co), (46, .o 5 0 2 2), (47, .c (I 2)), (13, .c (B is)), (48, .c (I j)), (52, .o 2 0 l.length c), (53, .c (I l.length)), (54, .c (I (0 : Nat)))]) (fun _ => [mpO encS encS nl nk, mpO encS encB fl fk, .arr 70 2 c (sR l), mpO encS encB sl sk, .arr 127 2 co (cR O), .arr 4 1 2 [[B false], [B true]]]) (by decide) (ZNL hE) ZCF ZCH (fun _ => ?_)
   exact ⟨l.length, 0, co, sk, sl, O, sn, [], by omega, by omega, hsl, by rw [List.take_zero, hsn0]; exact .nil, by rw [hO0, List.append_nil], rfl, rfl⟩
  ·clear hsl hO hO0 hsn0
   rintro m3 F H ⟨i, co, sk, sl, O, sn, o, hi, hO, hsl, hP, hOo, rfl, rfl⟩
   refine WA ?_
   refine aw_if rfl (fun hlt3 => ?_) (fun hge3 => ?_)
   ·obtain ⟨f, hf⟩ : ∃ z, l[i]? = some z := ⟨_, List.getElem?_eq_getElem (by omega)⟩
    obtain ⟨ff, ft⟩ := f
    have hrow0 : (sR l)[0 + i]? = some [I ff, I ft] := by rw [Nat.zero_add, List.getElem?_map, hf]; rfl
    have hs1 := hsl ⟨ff, ft⟩
    have hf1 := hfl ⟨ff, ft⟩
    refine WA ?_
    refine aw_cut (fun F H => ∃ b : Bool, (b = true → (⟨ff, ft⟩ : Sid2) ∈ sn ∨ (is = false ∧ folB S ⟨ff, ft⟩ = true)) ∧ (b = false → (⟨ff, ft⟩ : Sid2) ∉ sn ∧ ¬ (is = false ∧ folB S ⟨ff, ft⟩ = true)) ∧ F = [(5, .mp 0), (6, .mp 1), (7, .o 2 0 l.length c), (10, .mp 3), (11, .o 4 0 O.length co), (46, .o 5 0 2 2), (47, .c (I 2)), (13, .c (B is)), (48, .c (I j)), (52, .o 2 0 l.length c), (53, .c (I l.length)), (54, .c (I i)), (15, .p 6 0 0), (69, .c (B b))] ∧ H = [mpO encS encS nl nk, mpO encS encB fl fk, .arr 70 2 c (sR l), mpO encS encB sl sk, .arr 127 2 co (cR O), .arr 4 1 2 [[B false], [B true]], .box [.c (I ff), .c (I ft)]]) ?_ ?_ wk_aw
    ·cases hsn : sn.contains (⟨ff, ft⟩ : Sid2) with
     | true =>
      refine WR ?_
      refine al_rd rfl rfl (by decide) (rd_hasS (r := true) (hs1.trans hsn) rfl Tryz.underlying182 (by kernel_rfl) rfl rfl rfl) ?_
      refine WE ?_
      refine wk_of [some 0, some 1, some 2, some 3, some 4, some 5, some 6] (fun _ => [(5, .mp 0), (6, .mp 1), (7, .o 2 0 l.length c), (10, .mp 3), (11, .o 4 0 O.length co), (46, .o 5 0 2 2), (47, .c (I 2)), (13, .c (B is)), (48, .c (I j)), (52, .o 2 0 l.length c), (53, .c (I l.length)), (54, .c (I i)), (15, .p 6 0 0), (69, .c (B true))]) (fun _ => [mpO encS encS nl nk, mpO encS encB fl fk, .arr 70 2 c (sR l), mpO encS encB sl sk, .arr 127 2 co (cR O), .arr 4 1 2 [[B false], [B true]], .box [.c (I ff), .c (I ft)]]) (by decide) (ZNL hE) ZCF ZCH (fun _ => ?_)
      exact ⟨true, fun _ => .inl (by simpa using hsn), fun h => (by cases h), rfl, rfl⟩
     | false =>
      have hsn' : (⟨ff, ft⟩ : Sid2) ∉ sn := by simpa using hsn
      cases is with
      | true =>
       refine WR ?_
       refine al_rd rfl rfl (by decide) (rd_hasS (r := false) (hs1.trans hsn) rfl Tryz.underlying182 (by kernel_rfl) rfl rfl rfl) ?_
       refine WE ?_
       refine wk_of [some 0, some 1, some 2, some 3, some 4, some 5, some 6] (fun _ => [(5, .mp 0), (6, .mp 1), (7, .o 2 0 l.length c), (10, .mp 3), (11, .o 4 0 O.length co), (46, .o 5 0 2 2), (47, .c (I 2)), (13, .c (B true)), (48, .c (I j)), (52, .o 2 0 l.length c), (53, .c (I l.length)), (54, .c (I i)), (15, .p 6 0 0), (69, .c (B false))]) (fun _ => [mpO encS encS nl nk, mpO encS encB fl fk, .arr 70 2 c (sR l), mpO encS encB sl sk, .arr 127 2 co (cR O), .arr 4 1 2 [[B false], [B true]], .box [.c (I ff), .c (I ft)]]) (by decide) (ZNL hE) ZCF ZCH (fun _ => ?_)
       exact ⟨false, fun h => (by cases h), fun _ => ⟨hsn', fun h => (by cases h.1)⟩, rfl, rfl⟩
      | false =>
       refine WR ?_
       refine al_rd rfl rfl (by decide) (rd_hasS (r := false) (hs1.trans hsn) rfl Tryz.underlying182 (by kernel_rfl) rfl rfl rfl) ?_
       refine WO ?_
       refine G1 rfl ?_
       refine al_rd rfl rfl (by decide) (rd_hasS (r := (folB S ⟨ff, ft⟩)) hf1 rfl Tryz.underlying182 (by kernel_rfl) rfl rfl rfl) ?_
       refine WE ?_
       refine wk_of [some 0, some 1, some 2, some 3, some 4, some 5, some 6] (fun _ => [(5, .mp 0), (6, .mp 1), (7, .o 2 0 l.length c), (10, .mp 3), (11, .o 4 0 O.length co), (46, .o 5 0 2 2), (47, .c (I 2)), (13, .c (B false)), (48, .c (I j)), (52, .o 2 0 l.length c), (53, .c (I l.length)), (54, .c (I i)), (15, .p 6 0 0), (69, .c (B (folB S ⟨ff, ft⟩)))]) (fun _ => [mpO encS encS nl nk, mpO encS encB fl fk, .arr 70 2 c (sR l), mpO encS encB sl sk, .arr 127 2 co (cR O), .arr 4 1 2 [[B false], [B true]], .box [.c (I ff), .c (I ft)]]) (by decide) (ZNL hE) ZCF ZCH (fun _ => ?_)
       exact ⟨folB S ⟨ff, ft⟩, fun h => .inr ⟨rfl, h⟩, fun h => ⟨hsn', fun h2 => by rw [h] at h2; cases h2.2⟩, rfl, rfl⟩
    rintro F H ⟨b, hb1, hb2, rfl, rfl⟩
    refine aw_cond rfl (fun hbb => ?_) (fun hbb => ?_)
    ·have hP2 := hP.skip1 hf (hb1 hbb)
     refine ZZ ?_
     refine WA ?_
     refine wk_of [some 0, some 1, some 2, some 3, some 4, some 5] (fun _ => [(5, .mp 0), (6, .mp 1), (7, .o 2 0 l.length c), (10, .mp 3), (11, .o 4 0 O.length co), (46, .o 5 0 2 2), (47, .c (I 2)), (13, .c (B is)), (48, .c (I j)), (52, .o 2 0 l.length c), (53, .c (I l.length)), (54, .c (I (i + 1 : Nat)))]) (fun _ => [mpO encS encS nl nk, mpO encS encB fl fk, .arr 70 2 c (sR l), mpO encS encB sl sk, .arr 127 2 co (cR O), .arr 4 1 2 [[B false], [B true]]]) (by decide) (ZNL hE) ZCF ZCH (fun _ => ?_)
     exact ⟨m3 - 1, by omega, i + 1, co, sk, sl, O, sn, o, by omega, by omega, hsl, hP2, hOo, rfl, rfl⟩
    obtain ⟨hns, hnf⟩ := hb2 hbb
    refine ZZ ?_
    refine WA ?_
    refine WA ?_
    refine aw_loopw (fun m F H => ∃ (af at_ : Int) (t D : List Sid2) (cd sk : Nat) (sl : List (Nat × Sid2 × Bool)), m + t.length = S.length ∧ Rv (nxt S) ⟨ff, ft⟩ (⟨af, at_⟩ :: t) ∧ D = ((⟨af, at_⟩ : Sid2) :: t).reverse ∧ (∀ s, (mget sl s).getD false = (sn.contains s || t.contains s)) ∧ F = [(5, .mp 0), (6, .mp 1), (7, .o 2 0 l.length c), (10, .mp 3), (11, .o 4 0 O.length co), (46, .o 5 0 2 2), (47, .c (I 2)), (13, .c (B is)), (48, .c (I j)), (52, .o 2 0 l.length c), (53, .c (I l.length)), (15, .p 6 0 0), (16, .p 7 0 0), (17, .p 9 0 0), (18, .c (B true)), (54, .c (I i))] ∧ H = [mpO encS encS nl nk, mpO encS encB fl fk, .arr 70 2 c (sR l), mpO encS encB sl sk, .arr 127 2 co (cR O), .arr 4 1 2 [[B false], [B true]], .box [.c (I ff), .c (I ft)], .box [.o 8 0 D.length cd, .c (B is)], .arr 70 2 cd (sR D), .box [.c (I af), .c (I at_)]]) ?_ ?_
    ·refine wk_of [some 0, some 1, some 2, some 3, some 4, some 5, some 6, some 8, some 7, some 9] (fun _ => [(5, .mp 0), (6, .mp 1), (7, .o 2 0 l.length c), (10, .mp 3), (11, .o 4 0 O.length co), (46, .o 5 0 2 2), (47, .c (I 2)), (13, .c (B is)), (48, .c (I j)), (52, .o 2 0 l.length c), (53, .c (I l.length)), (15, .p 6 0 0), (16, .p 7 0 0), (17, .p 9 0 0), (18, .c (B true)), (54, .c (I i))]) (fun _ => [mpO encS encS nl nk, mpO encS encB fl fk, .arr 70 2 c (sR l), mpO encS encB sl sk, .arr 127 2 co (cR O), .arr 4 1 2 [[B false], [B true]], .box [.c (I ff), .c (I ft)], .box [.o 8 0 1 1, .c (B is)], .arr 70 2 1 [[I ff, I ft]], .box [.c (I ff), .c (I ft)]]) (by decide) (ZNL hE) ZCF ZCH (fun _ => ?_)
     exact ⟨S.length, ff, ft, [], [⟨ff, ft⟩], 1, sk, sl, by simp, .one, rfl, fun s => by rw [hsl]; simp, rfl, rfl⟩
    rintro m4 F H ⟨af, at_, t, D, cd, sk, sl, hm4, hRv, hD, hsl, rfl, rfl⟩
    have hsl2 : ∀ s, (mget (mset sk ⟨af, at_⟩ true sl) s).getD false = (sn.contains s || ((⟨af, at_⟩ : Sid2) :: t).contains s) := fun s => by
     rw [mget_mset]
     by_cases e : s = ⟨af, at_⟩
     ·rw [if_pos e, e]; simp
     ·rw [if_neg e, hsl, List.contains_cons]
      have : (s == (⟨af, at_⟩ : Sid2)) = false := by simpa using e
      rw [this, Bool.false_or]
    have hnx := hnl ⟨af, at_⟩
    have hsh := hRv.short hok
    refine ZR ?_
    iterate 2 refine WX1 ?_
    refine al_ef rfl (ef_mapset (ke := encS) (ve := encB) (k := ⟨af, at_⟩) (z := true) (l := sl) (ck := sk) keyS rfl rfl Tryz.underlying182 rfl rfl rfl (fun ρ H => by simp [AV.den, AV.denL, CV.den, encS]) rfl (fun ρ H => rfl)) ?_
    rintro _ _ ⟨rfl, rfl⟩
    refine WE ?_
    have hDl : D.length = t.length + 1 := by rw [hD, List.length_reverse, List.length_cons]
    cases e : nxt S ⟨af, at_⟩ with
    | none =>
     rw [e] at hnx
     refine WR ?_
     refine al_rd rfl rfl (by decide) (show Rd _ _ _ _ _ _ (.t [.a [.c (I 0), .c (I 0)], .c (B false)]) from rd_nextS (r := none) hnx rfl Tryz.underlying181 (by kernel_rfl) rfl rfl rfl) ?_
     refine WE ?_
     refine WA ?_
     refine aw_cond_t rfl ?_
     refine ZZ ?_
     obtain ⟨r, hr, hch⟩ := hRv.end_ (.stop e)
     have hD2 : D = (⟨ff, ft⟩ : Sid2) :: r := hD.trans hr
     have hsl3 : ∀ s, (mget (mset sk ⟨af, at_⟩ true sl) s).getD false = (sn ++ (⟨ff, ft⟩ : Sid2) :: r).contains s := fun s => by
      rw [hsl2, ← hr]
      rw [Bool.eq_iff_iff]
      simp
      <;> (constructor <;> (intro h; rcases h with h | h | h <;> simp [h]))
     have hP2 := hP.take1 hf hns hnf hch
     refine aw_wk (wk_of (K := fun F H => ∃ q0, F = [(5, .mp 0), (6, .mp 1), (7, .o 2 0 l.length c), (10, .mp 3), (11, .o 4 0 O.length co), (46, .o 5 0 2 2), (47, .c (I 2)), (13, .c (B is)), (48, .c (I j)), (52, .o 2 0 l.length c), (53, .c (I l.length)), (54, .c (I i)), (16, .p 6 0 0)] ∧ H = [mpO encS encS nl nk, mpO encS encB fl fk, .arr 70 2 c (sR l), mpO encS encB (mset sk ⟨af, at_⟩ true sl) (mclk sk ⟨af, at_⟩ sl), .arr 127 2 co (cR O), .arr 4 1 2 [[B false], [B true]], .box [.c (.r q0 (sR D)), .c (B is)]]) [some 0, some 1, some 2, some 3, some 4, some 5, some 7] (fun _ => [(5, .mp 0), (6, .mp 1), (7, .o 2 0 l.length c), (10, .mp 3), (11, .o 4 0 O.length co), (46, .o 5 0 2 2), (47, .c (I 2)), (13, .c (B is)), (48, .c (I j)), (52, .o 2 0 l.length c), (53, .c (I l.length)), (54, .c (I i)), (16, .p 6 0 0)]) (fun g => [mpO encS encS nl nk, mpO encS encB fl fk, .arr 70 2 c (sR l), mpO encS encB (mset sk ⟨af, at_⟩ true sl) (mclk sk ⟨af, at_⟩ sl), .arr 127 2 co (cR O), .arr 4 1 2 [[B false], [B true]], .box [.c (.r (g (.o 8 0 D.length cd)) (sR D)), .c (B is)]]) (by decide) (ZNL hE) ZCF (by intro _g; (repeat first | exact K0 | apply K1 rfl | apply K2 rfl rfl | apply K3 | apply CvH.oth rfl (.map rfl) | exact L0 | apply L1 | exact V6 rfl rfl (by rw [List.drop_zero, List.take_of_length_le (by simp)]) (by simp) rfl | exact V1 rfl); fail_if_success focus skip) (fun _ => ⟨_, rfl, rfl⟩)) ?_
     rintro F H ⟨q0, rfl, rfl⟩
     refine WR ?_
     refine al_ef rfl (Zapp (KA (t := 124) rfl)) ?_
     rintro _ _ ⟨_, cc, hcc, rfl, rfl⟩
     refine WE ?_
     refine WA ?_
     refine wk_of [some 0, some 1, some 2, some 3, some 4, some 5] (fun _ => [(5, .mp 0), (6, .mp 1), (7, .o 2 0 l.length c), (10, .mp 3), (11, .o 4 0 (O ++ [(q0, (D, is))]).length cc), (46, .o 5 0 2 2), (47, .c (I 2)), (13, .c (B is)), (48, .c (I j)), (52, .o 2 0 l.length c), (53, .c (I l.length)), (54, .c (I (i + 1 : Nat)))]) (fun _ => _) (by decide) (ZNL hE) ZCF ZCH (fun _ => ?_)
     exact ⟨m3 - 1, by omega, i + 1, cc, mclk sk ⟨af, at_⟩ sl, mset sk ⟨af, at_⟩ true sl, O ++ [(q0, (D, is))], sn ++ (⟨ff, ft⟩ : Sid2) :: r, o ++ [((⟨ff, ft⟩ : Sid2) :: r, is)], by omega, by simp; omega, hsl3, hP2, by rw [List.map_append, hOo, List.append_assoc, hD2]; rfl, rfl, by simp⟩
    | some b =>
     obtain ⟨bf, bt⟩ := b
     rw [e] at hnx
     refine WR ?_
     refine al_rd rfl rfl (by decide) (show Rd _ _ _ _ _ _ (.t [.a [.c (I bf), .c (I bt)], .c (B true)]) from rd_nextS (r := (some ⟨bf, bt⟩)) hnx rfl Tryz.underlying181 (by kernel_rfl) rfl rfl rfl) ?_
     refine WE ?_
     refine WA ?_
     refine aw_if rfl (fun hbk => ?_) (fun hbk => ?_)
     ·obtain ⟨k1, k2⟩ := hbk
      have e' : nxt S ⟨af, at_⟩ = some ⟨ff, ft⟩ := by rw [e, k1, k2]
      refine ZZ ?_
      obtain ⟨r, hr, hch⟩ := hRv.end_ (.back e')
      have hD2 : D = (⟨ff, ft⟩ : Sid2) :: r := hD.trans hr
      have hsl3 : ∀ s, (mget (mset sk ⟨af, at_⟩ true sl) s).getD false = (sn ++ (⟨ff, ft⟩ : Sid2) :: r).contains s := fun s => by
       rw [hsl2, ← hr]
       rw [Bool.eq_iff_iff]
       simp
       <;> (constructor <;> (intro h; rcases h with h | h | h <;> simp [h]))
      have hP2 := hP.take1 hf hns hnf hch
      refine aw_wk (wk_of (K := fun F H => ∃ q0, F = [(5, .mp 0), (6, .mp 1), (7, .o 2 0 l.length c), (10, .mp 3), (11, .o 4 0 O.length co), (46, .o 5 0 2 2), (47, .c (I 2)), (13, .c (B is)), (48, .c (I j)), (52, .o 2 0 l.length c), (53, .c (I l.length)), (54, .c (I i)), (16, .p 6 0 0)] ∧ H = [mpO encS encS nl nk, mpO encS encB fl fk, .arr 70 2 c (sR l), mpO encS encB (mset sk ⟨af, at_⟩ true sl) (mclk sk ⟨af, at_⟩ sl), .arr 127 2 co (cR O), .arr 4 1 2 [[B false], [B true]], .box [.c (.r q0 (sR D)), .c (B is)]]) [some 0, some 1, some 2, some 3, some 4, some 5, some 7] (fun _ => [(5, .mp 0), (6, .mp 1), (7, .o 2 0 l.length c), (10, .mp 3), (11, .o 4 0 O.length co), (46, .o 5 0 2 2), (47, .c (I 2)), (13, .c (B is)), (48, .c (I j)), (52, .o 2 0 l.length c), (53, .c (I l.length)), (54, .c (I i)), (16, .p 6 0 0)]) (fun g => [mpO encS encS nl nk, mpO encS encB fl fk, .arr 70 2 c (sR l), mpO encS encB (mset sk ⟨af, at_⟩ true sl) (mclk sk ⟨af, at_⟩ sl), .arr 127 2 co (cR O), .arr 4 1 2 [[B false], [B true]], .box [.c (.r (g (.o 8 0 D.length cd)) (sR D)), .c (B is)]]) (by decide) (ZNL hE) ZCF (by intro _g; (repeat first | exact K0 | apply K1 rfl | apply K2 rfl rfl | apply K3 | apply CvH.oth rfl (.map rfl) | exact L0 | apply L1 | exact V6 rfl rfl (by rw [List.drop_zero, List.take_of_length_le (by simp)]) (by simp) rfl | exact V1 rfl); fail_if_success focus skip) (fun _ => ⟨_, rfl, rfl⟩)) ?_
      rintro F H ⟨q0, rfl, rfl⟩
      refine WR ?_
      refine al_ef rfl (Zapp (KA (t := 124) rfl)) ?_
      rintro _ _ ⟨_, cc, hcc, rfl, rfl⟩
      refine WE ?_
      refine WA ?_
      refine wk_of [some 0, some 1, some 2, some 3, some 4, some 5] (fun _ => [(5, .mp 0), (6, .mp 1), (7, .o 2 0 l.length c), (10, .mp 3), (11, .o 4 0 (O ++ [(q0, (D, is))]).length cc), (46, .o 5 0 2 2), (47, .c (I 2)), (13, .c (B is)), (48, .c (I j)), (52, .o 2 0 l.length c), (53, .c (I l.length)), (54, .c (I (i + 1 : Nat)))]) (fun _ => _) (by decide) (ZNL hE) ZCF ZCH (fun _ => ?_)
      exact ⟨m3 - 1, by omega, i + 1, cc, mclk sk ⟨af, at_⟩ sl, mset sk ⟨af, at_⟩ true sl, O ++ [(q0, (D, is))], sn ++ (⟨ff, ft⟩ : Sid2) :: r, o ++ [((⟨ff, ft⟩ : Sid2) :: r, is)], by omega, by simp; omega, hsl3, hP2, by rw [List.map_append, hOo, List.append_assoc, hD2]; rfl, rfl, by simp⟩
     ·have hne : (⟨bf, bt⟩ : Sid2) ≠ ⟨ff, ft⟩ := fun h => hbk (by injection h with h1 h2; exact ⟨h1, h2⟩)
      have hRv2 := Rv.more hRv e hne
      have hsh2 := hRv2.short hok
      rw [List.length_cons] at hsh2
      refine ZZ ?_
      refine WR ?_
      refine al_ef rfl (Zapp (KA (t := 57) rfl)) ?_
      rintro _ _ ⟨_, cc, hcc, rfl, rfl⟩
      refine WE ?_
      refine WA ?_
      refine WA ?_
      refine wk_of [some 0, some 1, some 2, some 3, some 4, some 5, some 6, some 7, some 8, some 11] (fun _ => [(5, .mp 0), (6, .mp 1), (7, .o 2 0 l.length c), (10, .mp 3), (11, .o 4 0 O.length co), (46, .o 5 0 2 2), (47, .c (I 2)), (13, .c (B is)), (48, .c (I j)), (52, .o 2 0 l.length c), (53, .c (I l.length)), (15, .p 6 0 0), (16, .p 7 0 0), (17, .p 9 0 0), (18, .c (B true)), (54, .c (I i))]) (fun _ => [mpO encS encS nl nk, mpO encS encB fl fk, .arr 70 2 c (sR l), mpO encS encB (mset sk ⟨af, at_⟩ true sl) (mclk sk ⟨af, at_⟩ sl), .arr 127 2 co (cR O), .arr 4 1 2 [[B false], [B true]], .box [.c (I ff), .c (I ft)], .box [.o 8 0 (D ++ [(⟨bf, bt⟩ : Sid2)]).length cc, .c (B is)], .arr 70 2 cc (sR (D ++ [(⟨bf, bt⟩ : Sid2)])), .box [.c (I bf), .c (I bt)]]) (by decide) (ZNL hE) ZCF ZCH (fun _ => ?_)
      exact ⟨m4 - 1, by omega, bf, bt, ⟨af, at_⟩ :: t, D ++ [⟨bf, bt⟩], cc, mclk sk ⟨af, at_⟩ sl, mset sk ⟨af, at_⟩ true sl, by simp; omega, hRv2, by rw [List.reverse_cons, ← hD], hsl2, rfl, rfl⟩
   ·rw [List.take_of_length_le (by omega)] at hP
    refine ZZ ?_
    refine WA ?_
    refine wk_of [some 0, some 1, some 2, some 3, some 4, some 5] (fun _ => [(5, .mp 0), (6, .mp 1), (7, .o 2 0 l.length c), (10, .mp 3), (11, .o 4 0 O.length co), (46, .o 5 0 2 2), (47, .c (I 2)), (48, .c (I (j + 1 : Nat)))]) (fun _ => [mpO encS encS nl nk, mpO encS encB fl fk, .arr 70 2 c (sR l), mpO encS encB sl sk, .arr 127 2 co (cR O), .arr 4 1 2 [[B false], [B true]]]) (by decide) (ZNL hE) ZCF ZCH (fun _ => ?_)
    refine ⟨m2 - 1, by omega, j + 1, co, sk, sl, O, sn, by omega, by omega, hsl, by omega, fun h1 => ?_, fun h2 => ?_, rfl, rfl⟩
    ·rcases hst with ⟨k1, k2, k3, k4⟩ | ⟨k1, k2, k3⟩
     ·rw [hOo, k3, List.nil_append]
      rw [k1, k4] at hP
      exact hP
     ·omega
    ·rcases hst with ⟨k1, k2, k3, k4⟩ | ⟨k1, k2, k3⟩
     ·omega
     ·rw [k1] at hP
      exact ⟨O0, sn0, o, k3, hP, hOo⟩
 obtain rfl : j = 2 := by omega
 obtain ⟨o1, s1, o2, hP1, hP2, hOe⟩ := hj2 rfl
 have hne : ∀ p ∈ O, p.2.1 ≠ [] := fun p hp => by
  have : p.2 ∈ o1 ++ o2 := hOe ▸ List.mem_map.2 ⟨p, hp, rfl⟩
  rcases List.mem_append.1 this with h | h
  ·exact hP1.ne _ h
  ·exact hP2.ne _ h
 refine ZZ ?_
 refine WR ?_
 refine al_ef rfl (ef_callp [4] (fun _ => [.arr 127 2 co (cR O)]) false (fun _ => sortCon_v O hne co (by omega)) rfl .fn rfl (by decide) (by kernel_rfl) rfl ZCH (by decide) (fun _ => .arr rfl rfl .nil) (by simp)) ?_
 rintro F1 H1 ⟨_, _, _, _, ⟨l', rfl, rfl, hp, hs⟩, hF, hH⟩
 rw [killF_nil] at hF; (refine NSU hF hH ?_; clear hF hH; rintro rfl rfl)
 refine WE ?_
 refine WA ?_
 have hpl := hp.length_eq
 refine aret_f1 [] _ rfl rfl rfl rfl (by rw [List.drop_zero, List.take_of_length_le (by simp; omega)]) (by simp; omega) rfl (by decide) (ZNK rfl) (fun _ => .nil) (fun q => ⟨q, l', rfl, rfl, ?_⟩)
 rw [hl2] at hP1 hP2
 exact IsConts.of hP1 hP2 hOe (hp.map Prod.snd) hs
end Go.Proofs.YtlblimbelfenaaaGreat

/- Heights and places of the stream, by value. -/
-- NEWM
namespace Go.Proofs.YtlblimbelfenaaaGreat
open Go Go.RowKit
set_option maxRecDepth 100000
end Go.Proofs.YtlblimbelfenaaaGreat

/- A pyramid's surface, by value: its arrays are new. -/
-- NEWM
namespace Go.Proofs.YtlblimbelfenaaaGreat
open Go Go.RowKit
set_option maxRecDepth 100000
def tetV (p : Vec3) (n : Int) : List Vec3 := [p, ⟨p.x + n, p.y, p.z⟩, ⟨p.x, p.y + n, p.z⟩, ⟨p.x, p.y, p.z + n⟩]
def tetF : List Fac3 := [⟨0, 2, 1⟩, ⟨0, 1, 3⟩, ⟨1, 2, 3⟩, ⟨0, 3, 2⟩]
theorem tetra_v (p : Vec3) (n : Int) (hp : (-4000000000000000000 ≤ p.x ∧ p.x ≤ 4000000000000000000) ∧ (-4000000000000000000 ≤ p.y ∧ p.y ≤ 4000000000000000000) ∧ (-4000000000000000000 ≤ p.z ∧ p.z ≤ 4000000000000000000)) (hn : 0 ≤ n ∧ n ≤ 1000) :
    ACalls Tryz.prog 46 [.a (p.row.map .c), .c (I n)] [] fun u H => u = .a [.o 0 0 4 4, .o 1 0 4 4] ∧ H = [.arr 93 3 4 (vR (tetV p n)), .arr 97 3 4 (fR tetF)] := by
 obtain ⟨x, y, z⟩ := p
 simp only at hp
 refine acalls_of (N := 40) Tryz.func46 rfl rfl (by simp) fun E hE => ?_
 refine WA ?_
 refine WA ?_
 exact aret_a [some 2, some 3] [.arr 93 3 4 (vR (tetV ⟨x, y, z⟩ n)), .arr 97 3 4 (fR tetF)] rfl (KK (t := 29) rfl) rfl (Cells.box rfl) (by simp) (by (try simp only [nm, putL, Nat.reduceAdd, cellsOf, cvOf]) <;> rfl) (by decide) (ZNK rfl) (fun _ => .cons (.o rfl rfl) (.cons (.o rfl rfl) .nil)) ZCH ⟨rfl, rfl⟩
end Go.Proofs.YtlblimbelfenaaaGreat

/- slices.Delete of faces, by value. -/
namespace Go.Proofs.YtlblimbelfenaaaGreat
open Go Go.RowKit
set_option maxRecDepth 100000
theorem deleteF_v (l : List Fac3) (i c : Nat) (hi : i < l.length) (hl : l.length ≤ 1000000) (hc : l.length ≤ c) : ACalls Tryz.prog 50 [.o 0 0 l.length c, .c (I i), .c (I (i + 1))] [.arr 97 3 c (l.map Fac3.row)] fun u H => ∃ l' : List Fac3, l' = l.take i ++ l.drop (i + 1) ∧ u = .o 0 0 l'.length c ∧ H = [.arr 97 3 c (l'.map Fac3.row)] := by
 refine acallsx_of false (N := 33) Tryz.func50 rfl rfl (by simp) fun E hE hP => ?_
 refine WA ?_
 refine ZR ?_
 iterate 5 refine WX1 ?_
 refine ZA (rd_slice3 (l := i) (h := i + 1) (mx := l.length) rfl (KE (t := 27) rfl) rfl rfl rfl rfl rfl (by omega) rfl rfl (by omega) (by omega) (by omega) (by omega)) ?_
 refine WE ?_
 refine WA ?_
 refine aw_cond_f rfl ?_
 refine ZZ ?_
 refine WA ?_
 refine aw_wk (wk_of (K := fun F H => F = [(0, .o 0 0 l.length c), (1, .c (I i)), (2, .c (I (i + 1))), (7, .c (I l.length))] ∧ H = [.arr 97 3 c (l.map Fac3.row)]) [some 0] (fun _ => [(0, .o 0 0 l.length c), (1, .c (I i)), (2, .c (I (i + 1))), (7, .c (I l.length))]) (fun _ => _) (by decide) (ZNL hE) ZCF ZCH (fun _ => ⟨rfl, rfl⟩)) ?_
 rintro F H ⟨rfl, rfl⟩
 have hrows : (l.map Fac3.row).take i ++ (l.drop (i + 1)).map Fac3.row = (l.take i ++ l.drop (i + 1)).map Fac3.row := by
  rw [List.map_append, List.map_take]
 have hlen : (l.take i ++ l.drop (i + 1)).length = i + (l.length - (i + 1)) := by simp; omega
 refine aw_cut (fun F H => ∃ l' : List Fac3, l' = l.take i ++ l.drop (i + 1) ∧ F = [(0, .o 0 0 l'.length c), (7, .c (I l.length))] ∧ H = [.arr 97 3 c (l'.map Fac3.row)]) ?_ ?_ wk_aw
 ·rcases Nat.lt_or_ge (i + 1) c with hic | hic
  ·refine ZZ ?_
   refine aw_regionT [(0, none), (1, none), (2, none), (3, none), (4, none), (5, none), (6, some []), (7, none)] hMixed (by kernel_rfl) ?_
   iterate 2 refine WX2 ?_
   refine ZT rfl (rd_slice (l := 0) (h := i) rfl (KE (t := 27) rfl) rfl rfl (.inl ⟨rfl, rfl⟩) (.inr ⟨_, _, _, rfl, rfl, rfl⟩) (by omega) (by omega) (by omega)) ?_
   iterate 2 refine WX2 ?_
   refine ZT rfl (rd_slice (l := i + 1) (h := l.length) rfl (KE (t := 27) rfl) rfl rfl (.inr ⟨_, _, _, rfl, rfl, rfl⟩) (.inl ⟨rfl, rfl⟩) (by omega) (by omega) (by omega)) ?_
   refine at_ef rfl rfl (ef_appc (b := 0) (n := i) (cap := c) (news := (l.drop (i + 1)).map Fac3.row) rfl rfl (by decide) (KA (t := 27) rfl) rfl rfl (by simp; omega) rfl (Src.own rfl (by rw [Nat.zero_add, ← List.map_drop, List.take_of_length_le (by simp)]) (by (try simp) <;> omega)) (by simp; omega)) ?_
   rintro F1 H1 ⟨_, c2, hc2, hcf, hF, hH⟩
   obtain rfl : c2 = c := hcf (by simp; omega)
   (refine NSU hF hH ?_; clear hF hH; rintro rfl rfl)
   refine ⟨ag_none, ?_⟩
   refine WQ ?_
   refine wk_of [some 0] (fun _ => [(0, .o 0 0 (l.take i ++ l.drop (i + 1)).length _), (7, .c (I l.length))]) (fun _ => [.arr 97 3 _ ((l.take i ++ l.drop (i + 1)).map Fac3.row)]) (by decide) (ZNL hE) (fun _g => .cons rfl (.o rfl (by rw [hlen]; simp)) (.cons rfl (.c rfl) .nil)) (fun _g => .arr rfl hrows .nil) (fun _ => ⟨_, rfl, rfl, rfl⟩)
  ·obtain rfl : c = i + 1 := by omega
   have hdn : l.drop (i + 1) = [] := List.drop_eq_nil_of_le (by omega)
   refine ZZ ?_
   refine aw_regionT [(0, none), (1, none), (2, none), (3, none), (4, none), (5, none), (6, some []), (7, none)] hMixed (by kernel_rfl) ?_
   iterate 2 refine WX2 ?_
   refine ZT rfl (rd_slice (l := 0) (h := i) rfl (KE (t := 27) rfl) rfl rfl (.inl ⟨rfl, rfl⟩) (.inr ⟨_, _, _, rfl, rfl, rfl⟩) (by omega) (by omega) (by omega)) ?_
   iterate 2 refine WX2 ?_
   refine ZT rfl (rd_slicee (l := i + 1) (h := l.length) rfl (KE (t := 27) rfl) rfl rfl (.inr ⟨_, _, _, rfl, rfl, rfl⟩) (.inl ⟨rfl, rfl⟩) (by omega) rfl) ?_
   refine at_ef rfl rfl (ef_appc (b := 0) (n := i) (cap := i + 1) (news := (l.drop (i + 1)).map Fac3.row) rfl rfl (by decide) (KA (t := 27) rfl) rfl rfl (by simp; omega) rfl (Src.own rfl (by rw [hdn]; simp) (by (try simp) <;> omega)) (by simp; omega)) ?_
   rintro F1 H1 ⟨_, c2, hc2, hcf, hF, hH⟩
   obtain rfl : c2 = i + 1 := hcf (by simp; omega)
   (refine NSU hF hH ?_; clear hF hH; rintro rfl rfl)
   refine ⟨ag_none, ?_⟩
   refine WQ ?_
   refine wk_of [some 0] (fun _ => [(0, .o 0 0 (l.take i ++ l.drop (i + 1)).length _), (7, .c (I l.length))]) (fun _ => [.arr 97 3 _ ((l.take i ++ l.drop (i + 1)).map Fac3.row)]) (by decide) (ZNL hE) (fun _g => .cons rfl (.o rfl (by rw [hlen]; simp)) (.cons rfl (.c rfl) .nil)) (fun _g => .arr rfl hrows .nil) (fun _ => ⟨_, rfl, rfl, rfl⟩)
 rintro F H ⟨l', hl', rfl, rfl⟩
 have hll : l'.length + 1 = l.length := by rw [hl', hlen]; omega
 refine ZR ?_
 iterate 4 refine WX1 ?_
 refine ZA (rd_slicex (l := l'.length) (h := l.length) rfl (KE (t := 27) rfl) rfl rfl (.inr ⟨_, _, _, rfl, rfl, rfl⟩) (.inr ⟨_, _, _, rfl, rfl, rfl⟩) (by omega) (by omega) (by omega)) ?_
 refine al_ef rfl (ef_clear rfl rfl (KE (t := 27) rfl) (KZ (t := 97) rfl) rfl rfl rfl rfl (by simp)) ?_
 rintro _ _ ⟨rfl, rfl⟩
 refine WE ?_
 refine WA ?_
 exact aret_o [some 0] (fun _ => [.arr 97 3 c (l'.map Fac3.row)]) rfl rfl rfl rfl rfl (by decide) (ZNK rfl) ZCH (fun _ => ⟨l', hl', rfl, rfl⟩)
end Go.Proofs.YtlblimbelfenaaaGreat
