/- Plain law: closed meshes have closed contours alone, and each side that is cut is in one of them, once. -/
import Derived.Test.YtlblimbelfenaaaGreatQbc
import Derived.Test.YtlblimbelfenaaaGreatQbb
import Derived.Test.YtlblimbelfenaaaGreatQax
import Derived.Test.YtlblimbelfenaaaGreatQaw
set_option linter.unusedSimpArgs false
set_option linter.unusedVariables false
/- What is wrong with a ring whose points are near, by value. -/
-- NEWM
namespace Go.Proofs.YtlblimbelfenaaaGreat
open Go Go.RowKit
set_option maxRecDepth 100000
def chkF (r : List P2) : Int := if r.length < 3 then 3 else if 500 < r.length then 2 else if r.Nodup then (if sfF r = true then 13 else 0) else 6
theorem nodup_tk {r : List P2} {k : Nat} {p : P2} (h : r[k]? = some p) (hn : (r.take k).Nodup) (hp : p ∉ r.take k) : (r.take (k + 1)).Nodup := by
 rw [take_snoc h, List.nodup_append]
 refine ⟨hn, by simp, fun a ha b hb e => ?_⟩
 rw [List.mem_singleton] at hb
 subst hb; subst e
 exact hp ha
theorem not_nodup_tk {r : List P2} {k : Nat} {p : P2} (h : r[k]? = some p) (hp : p ∈ r.take k) : ¬ r.Nodup := fun hn => by
 have h2 : (r.take (k + 1)).Nodup := hn.sublist (List.take_sublist _ _)
 rw [take_snoc h, List.nodup_append] at h2
 exact h2.2.2 p hp p (by simp) rfl
theorem out_near {n : Int} (h : -100000 ≤ n ∧ n ≤ 100000) : (decide (n < -100000) || decide (100000 < n)) = false := by
 simp only [Bool.or_eq_false_iff, decide_eq_false_iff_not]; omega
theorem isfar_v (p : P2) (hp : p.in) : ACalls Tryz.prog 207 [.a [.c (I p.x), .c (I p.y)]] [] fun u H => u = .c (B false) ∧ H = [] := by
 obtain ⟨x, y⟩ := p
 obtain ⟨hx, hy⟩ := hp
 simp only at hx hy
 refine acalls_of (N := 11) Tryz.func207 rfl rfl (by simp) fun E hE => ?_
 refine WA ?_
 refine WR ?_
 refine al_ef rfl (ef_call0 false (fun _ => outside_v x _ _) rfl .fn rfl (by decide) (by kernel_rfl) rfl (fun _g => .cons (.c rfl) (.cons (.c rfl) (.cons (.c rfl) .nil))) (by simp)) ?_
 rintro _ _ ⟨_, _, _, ⟨hu, rfl⟩, hF, hH⟩
 rw [out_near hx] at hu; subst hu
 (refine NST hF hH ?_; clear hF hH; rintro rfl rfl)
 refine WO ?_
 first | refine ZS ?_ | (refine G1 rfl ?_; refine al_ef rfl (ef_call0 false (fun _ => outside_v y _ _) rfl .fn rfl (by decide) (by kernel_rfl) rfl (fun _g => .cons (.c rfl) (.cons (.c rfl) (.cons (.c rfl) .nil))) (by simp)) ?_; rintro _ _ ⟨_, _, _, ⟨hu, rfl⟩, hF, hH⟩; rw [out_near hy] at hu; subst hu; (refine NST hF hH ?_; clear hF hH; rintro rfl rfl)) | skip
 refine WE ?_
 exact aret_1 [] _ rfl rfl rfl (by decide) (ZNK rfl) (fun _ => .nil) ⟨rfl, rfl⟩
theorem idxfarP_v (r : List P2) (v : Value) (hl : r.length ≤ 1000000) (hp : ∀ p ∈ r, p.in) : ACalls Tryz.prog 237 [.c (.r v (pR r)), .f (.func 207) []] [] fun u H => u = .c (I (-1)) ∧ H = [] := by
 have e1 : (pR r).length = r.length := by simp
 refine acalls_of (N := 19) Tryz.func237 rfl rfl (by simp) fun E hE => ?_
 refine WA ?_
 refine WA ?_
 refine aw_loopw (fun m F H => ∃ (k : Nat), m + k = r.length ∧ F = [(0, .c (.r v (pR r))), (1, .f (.func 207) []), (7, .c (I (pR r).length)), (8, .c (I k))] ∧ H = []) ?_ ?_
 ·refine wk_of [] (fun _ => [(0, .c (.r v (pR r))), (1, .f (.func 207) []), (7, .c (I (pR r).length)), (8, .c (I (0 : Nat)))]) (fun _ => _) (by decide) (ZNL hE) ZCF (fun _ => .nil) (fun _ => ?_)
  exact ⟨r.length, 0, by omega, rfl, rfl⟩
 rintro m F H ⟨k, hk, rfl, rfl⟩
 refine WA ?_
 refine aw_if rfl (fun hlt => ?_) (fun hge => ?_)
 ·obtain ⟨p, hpk⟩ : ∃ n, r[k]? = some n := ⟨_, List.getElem?_eq_getElem (by omega)⟩
  have hpi := hp p (List.mem_of_getElem? hpk)
  obtain ⟨px, py⟩ := p
  have hrow : (pR r)[k]? = some [I px, I py] := by rw [List.getElem?_map, hpk]; rfl
  refine WA ?_
  refine WR ?_
  refine al_ef rfl (ef_call0 false (fun _ => isfar_v ⟨px, py⟩ hpi) rfl (.clo rfl) rfl (by decide) (by kernel_rfl) rfl (fun _g => .cons (.aL (C0 rfl)) .nil) (by simp)) ?_
  rintro _ _ ⟨_, _, _, ⟨rfl, rfl⟩, hF, hH⟩
  (refine NST hF hH ?_; clear hF hH; rintro rfl rfl)
  refine WE ?_
  refine aw_cond_f rfl ?_
  refine ZZ ?_
  refine WA ?_
  refine wk_of [] (fun _ => [(0, .c (.r v (pR r))), (1, .f (.func 207) []), (7, .c (I (pR r).length)), (8, .c (I (k + 1 : Nat)))]) (fun _ => _) (by decide) (ZNL hE) ZCF (fun _ => .nil) (fun _ => ?_)
  exact ⟨m - 1, by omega, k + 1, by omega, rfl, rfl⟩
 refine WA ?_
 exact aret_1 [] _ rfl rfl rfl (by decide) (ZNK rfl) (fun _ => .nil) ⟨rfl, rfl⟩
theorem hasfarP_v (r : List P2) (v : Value) (hl : r.length ≤ 1000000) (hp : ∀ p ∈ r, p.in) : ACalls Tryz.prog 206 [.c (.r v (pR r)), .f (.func 207) []] [] fun u H => u = .c (B false) ∧ H = [] := by
 refine acalls_of (N := 9) Tryz.func206 rfl rfl (by simp) fun E hE => ?_
 refine WA ?_
 refine WR ?_
 refine al_ef rfl (ef_call0 false (fun _ => idxfarP_v r v hl hp) rfl .fn rfl (by decide) (by kernel_rfl) rfl (fun _g => .cons (.c rfl) (.cons (.fL .nil) .nil)) (by simp)) ?_
 rintro _ _ ⟨_, _, _, ⟨rfl, rfl⟩, hF, hH⟩
 (refine NST hF hH ?_; clear hF hH; rintro rfl rfl)
 refine WE ?_
 exact aret_1 [] _ rfl rfl rfl (by decide) (ZNK rfl) (fun _ => .nil) ⟨rfl, rfl⟩
def encP : Enc P2 := ⟨fun s => .agg #[.int .i64 s.x, .int .i64 s.y], fun s => .a (s.row.map .c), fun s ρ H => by simp [AV.den, AV.denL, CV.den], fun s w S ρ H => .a fun x hx => by
 simp only [List.map_cons, List.map_nil, List.mem_cons, List.not_mem_nil, or_false] at hx
 rcases hx with rfl | rfl
 ·exact .c (.s _)
 ·exact .c (.s _)⟩
theorem keyPte (a b c d : Int) (w : World) : (Op.equal 119 (.agg #[.int .i64 a, .int .i64 b]) (.agg #[.int .i64 c, .int .i64 d])).run Tryz.prog w = .ok (a == c && b == d) w := by
 have u3 := Tryz.underlying3
 have a3 := Tryz.isAgg3
 have z3 := Tryz.sizeOf3
 have hS : Tryz.prog.underlying 119 = some (.struct (Tryz.prog.fieldsOf 119)) := by kernel_rfl
 have hp : Tryz.prog.stoodInHeld 119 = false := by kernel_rfl
 unfold Op.equal Op.maxDepth
 rw [show (10000 : Nat) = 9999 + 1 from rfl, run_equalIn_agg w 9999 119 _ _ hS hp]
 simp only [Program.fieldsOf, Tryz.underlying119]
 go_simp
 by_cases h1 : a = c <;> by_cases h2 : b = d <;> simp [h1, h2]
theorem keyPtc (em : Bool) (a b : Int) (w : World) : (Instr.checkKey em 10000 119 (.agg #[.int .i64 a, .int .i64 b])).run Tryz.prog w = .ok () w := by
 have u3 := Tryz.underlying3
 have a3 := Tryz.isAgg3
 have z3 := Tryz.sizeOf3
 have hc := chkI em
 rw [show (10000 : Nat) = 9999 + 1 from rfl, Instr.checkKey]
 simp only [Sem.run_bind, mp_under Tryz.underlying119, Result.andThen_ok]
 go_simp
theorem keyP : KeyOk Tryz.prog 119 encP := by
 refine .ask Tryz.underlying119 (fun _ _ => rfl) (fun a b w => ?_) (fun b a w => keyPtc _ _ _ w) (fun a => ?_)
 ·simp only [encP]
  rw [keyPte]
  congr 1
  rw [Bool.eq_iff_iff]
  simp [p2_eq]
 ·simp [encP, Instr.sameBits]
theorem rd_hasP {N : Nat} {E : Env} {o : Oper} {F : Fm} {H : List OB} {t kt : TypeId} {x ix : Operand} {b ck : Nat} {l : List (Nat × P2 × Bool)} {kf kt' : Int} {r : Bool} (hb : (mget l ⟨kf, kt'⟩).getD false = r) (ho : o.op = .lookup t x ix false) (ht : Tryz.prog.underlying t = some (.map 119 kt)) (hz : (Tryz.prog.info? kt).bind (·.zero) = some (.bool false))
    (hx : ev F x = some (.mp b)) (hH : H[b]? = some (mpO encP encB l ck)) (hi : ev F ix = some (.a [.c (I kf), .c (I kt')])) : Rd Tryz.prog N E o F H (.c (B r)) := by
 subst hb
 exact rd_lookup (ke := encP) (ve := encB) (k := ⟨kf, kt'⟩) (z := false) keyP ho ht hz hx hH hi (fun ρ H => by simp [AV.den, AV.denL, CV.den, encP])
set_option maxHeartbeats 4000000 in
theorem chkring_v (r : List P2) (v : Value) (hl : r.length ≤ 1000000) (hp : ∀ p ∈ r, p.in) : ACalls Tryz.prog 152 [.c (.r v (pR r))] [] fun u H => u = .c (I (chkF r)) ∧ H = [] := by
 have e1 : (pR r).length = r.length := by simp
 refine acalls_of (N := 29) Tryz.func152 rfl rfl (by simp) fun E hE => ?_
 refine WA ?_
 refine WA ?_
 refine aw_if rfl (fun h0 => ?_) (fun h0 => ?_)
 ·refine WA ?_
  exact aret_1 [] _ rfl rfl rfl (by decide) (ZNK rfl) (fun _ => .nil) ⟨by rw [chkF, if_pos (by omega)], rfl⟩
 refine ZZ ?_
 refine WA ?_
 refine aw_if rfl (fun h1 => ?_) (fun h1 => ?_)
 ·refine WA ?_
  exact aret_1 [] _ rfl rfl rfl (by decide) (ZNK rfl) (fun _ => .nil) ⟨by rw [chkF, if_neg (by omega), if_pos (by omega)], rfl⟩
 have ec : chkF r = if r.Nodup then (if sfF r = true then 13 else 0) else 6 := by rw [chkF, if_neg (by omega), if_neg (by omega)]
 rw [ec]
 refine ZZ ?_
 refine WR ?_
 refine al_ef rfl (ef_call0 false (fun _ => hasfarP_v r v (by omega) hp) rfl .fn rfl (by decide) (by kernel_rfl) rfl (fun _g => .cons (.c rfl) (.cons (.fL .nil) .nil)) (by simp)) ?_
 rintro _ _ ⟨_, _, _, ⟨rfl, rfl⟩, hF, hH⟩
 (refine NST hF hH ?_; clear hF hH; rintro rfl rfl)
 refine WE ?_
 refine aw_cond_f rfl ?_
 refine ZZ ?_
 refine ZR ?_
 refine al_ef rfl (ef_mkmap rfl rfl (by decide)) ?_
 rintro _ _ ⟨rfl, rfl⟩
 refine WE ?_
 refine WA ?_
 refine aw_loopw (fun m F H => ∃ (k mk : Nat) (ml : List (Nat × P2 × Bool)), m + k = r.length ∧ (r.take k).Nodup ∧ (∀ p, (mget ml p).getD false = (r.take k).contains p) ∧ F = [(0, .c (.r v (pR r))), (3, .mp 0), (15, .c (.r v (pR r))), (16, .c (I (pR r).length)), (17, .c (I k))] ∧ H = [mpO encP encB ml mk]) ?_ ?_
 ·refine wk_of [some 0] (fun _ => [(0, .c (.r v (pR r))), (3, .mp 0), (15, .c (.r v (pR r))), (16, .c (I (pR r).length)), (17, .c (I (0 : Nat)))]) (fun _ => [mpO encP encB [] _]) (by decide) (ZNL hE) ZCF ZCH (fun _ => ?_)
  exact ⟨r.length, 0, _, [], by omega, by simp, fun p => by simp [mget], rfl, rfl⟩
 rintro m F H ⟨k, mk, ml, hk, hnd, hml, rfl, rfl⟩
 refine WA ?_
 refine aw_if rfl (fun hlt => ?_) (fun hge => ?_)
 ·obtain ⟨p, hpk⟩ : ∃ n, r[k]? = some n := ⟨_, List.getElem?_eq_getElem (by omega)⟩
  have hpm := hml p
  have hyes : p ∈ r.take k → ¬ r.Nodup := not_nodup_tk hpk
  have hno := nodup_tk hpk hnd
  have htk := take_snoc hpk
  obtain ⟨px, py⟩ := p
  have hrow : (pR r)[k]? = some [I px, I py] := by rw [List.getElem?_map, hpk]; rfl
  refine WA ?_
  cases hc : (r.take k).contains (⟨px, py⟩ : P2) with
  | true =>
   rw [hc] at hpm
   refine ZR ?_
   iterate 2 refine WX1 ?_
   refine ZA (rd_hasP (r := true) hpm rfl Tryz.underlying243 (by kernel_rfl) rfl rfl rfl) ?_
   refine WE ?_
   refine aw_cond_t rfl ?_
   refine WA ?_
   exact aret_1 [] _ rfl rfl rfl (by decide) (ZNK rfl) (fun _ => .nil) ⟨by rw [if_neg (hyes (by simpa using hc))], rfl⟩
  | false =>
   rw [hc] at hpm
   refine ZR ?_
   iterate 2 refine WX1 ?_
   refine ZA (rd_hasP (r := false) hpm rfl Tryz.underlying243 (by kernel_rfl) rfl rfl rfl) ?_
   refine WE ?_
   refine aw_cond_f rfl ?_
   refine ZZ ?_
   refine ZR ?_
   iterate 2 refine WX1 ?_
   refine al_ef rfl (ef_mapset (ke := encP) (ve := encB) (k := ⟨px, py⟩) (z := true) (l := ml) (ck := mk) keyP rfl rfl Tryz.underlying243 rfl rfl rfl (fun ρ H => by simp [AV.den, AV.denL, CV.den, encP]) rfl (fun ρ H => rfl)) ?_
   rintro _ _ ⟨rfl, rfl⟩
   refine WE ?_
   refine WA ?_
   refine wk_of [some 0] (fun _ => [(0, .c (.r v (pR r))), (3, .mp 0), (15, .c (.r v (pR r))), (16, .c (I (pR r).length)), (17, .c (I (k + 1 : Nat)))]) (fun _ => _) (by decide) (ZNL hE) ZCF ZCH (fun _ => ?_)
   refine ⟨m - 1, by omega, k + 1, _, mset mk ⟨px, py⟩ true ml, by omega, hno (by simpa using hc), fun p => ?_, rfl, rfl⟩
   rw [mget_mset, htk]
   by_cases e : p = ⟨px, py⟩
   ·subst e; simp
   ·rw [if_neg e, hml p, Bool.eq_iff_iff]
    simp [e]
 obtain rfl : k = r.length := by omega
 rw [List.take_of_length_le (Nat.le_refl _)] at hnd
 rw [if_pos hnd]
 refine ZZ ?_
 refine WR ?_
 refine al_ef rfl (ef_call0 false (fun _ => sidesf_v r v (by omega) hp) rfl .fn rfl (by decide) (by kernel_rfl) rfl (fun _ => C0 rfl) (by simp)) ?_
 rintro _ _ ⟨_, _, _, ⟨rfl, rfl⟩, hF, hH⟩
 (refine NST hF hH ?_; clear hF hH; rintro rfl rfl)
 refine WE ?_
 exact aret_1 [] _ rfl rfl rfl (by decide) (ZNK rfl) (fun _ => .nil) ⟨rfl, rfl⟩
end Go.Proofs.YtlblimbelfenaaaGreat

/- The reference's sides, points, by value. -/
namespace Go.Proofs.YtlblimbelfenaaaGreat
open Go Go.RowKit
set_option maxRecDepth 100000
def sd4 (r : List P2) : List (P2 × P2) := (List.range r.length).map fun k => (ptA r k, ptA r ((k + 1) % r.length))
abbrev row4 (s : P2 × P2) : List CV := [I s.1.x, I s.1.y, I s.2.x, I s.2.y]
abbrev s4R (l : List (P2 × P2)) : List (List CV) := l.map row4
theorem sd4_take {r : List P2} {k : Nat} (h : k < r.length) : (sd4 r).take (k + 1) = (sd4 r).take k ++ [(ptA r k, ptA r ((k + 1) % r.length))] := by
 refine take_snoc ?_
 unfold sd4
 rw [List.getElem?_map, List.getElem?_range h]
 rfl
theorem sd4_len (r : List P2) : (sd4 r).length = r.length := by simp [sd4]
set_option maxHeartbeats 4000000 in
theorem rgsides_v (r : List P2) (v : Value) (hl : r.length ≤ 1000000) : ACalls Tryz.prog 122 [.c (.r v (pR r))] [] fun u H => ∃ q, u = .c (.r q (s4R (sd4 r))) ∧ H = [] := by
 have e2 : (pR r).length = r.length := by simp
 refine acalls_of (N := 28) Tryz.func122 rfl rfl (by simp) fun E hE => ?_
 refine WA ?_
 refine WA ?_
 refine WA ?_
 refine aw_loopw (fun m F H => ∃ (k c : Nat) (M : List (P2 × P2)), m + k = r.length ∧ M.length ≤ k ∧ M.length ≤ c ∧ M = (sd4 r).take k ∧ F = [(0, .c (.r v (pR r))), (3, .o 0 0 M.length c), (6, .c (.r v (pR r))), (7, .c (I (pR r).length)), (8, .c (I k))] ∧ H = [.arr 171 4 c (s4R M)]) ?_ ?_
 ·refine wk_of [none] (fun _ => [(0, .c (.r v (pR r))), (3, .o 0 0 0 0), (6, .c (.r v (pR r))), (7, .c (I (pR r).length)), (8, .c (I (0 : Nat)))]) (fun _ => [.arr 171 4 0 []]) (by decide) (ZNL hE) ZCF ZCH (fun _ => ?_)
  exact ⟨r.length, 0, 0, [], by omega, by simp, by simp, rfl, rfl, rfl⟩
 rintro m F H ⟨k, c, M, hk, hM1, hM2, hM, rfl, rfl⟩
 refine WA ?_
 refine aw_if rfl (fun hlt2 => ?_) (fun hge2 => ?_)
 ·have hkl : k < r.length := by omega
  have hj : (k + 1) % r.length < r.length := Nat.mod_lt _ (by omega)
  have hm1 : (((k : Int) + 1) % (r.length : Int)) = ((k + 1) % r.length : Nat) := by simp
  have hM3 := sd4_take hkl
  have rA := prow hkl
  have rB := prow hj
  generalize (k + 1) % r.length = j at *
  generalize ptA r k = a at *
  generalize ptA r j = b at *
  refine WA ?_
  refine ZZ ?_
  refine aw_regionT [(0, none), (1, none), (2, none), (3, none), (4, none), (5, none), (6, none), (7, none), (8, none), (9, none), (10, none), (11, some [0]), (12, some []), (13, none)] hMixed (by kernel_rfl) ?_
  iterate 7 refine WX2 ?_
  refine ZT rfl (rd_remY (z := ((j : Nat) : Int)) rfl rfl rfl (by omega) (by rw [Int.tmod_eq_emod_of_nonneg (by omega)]; simpa using hm1)) ?_
  refine ZT rfl (rd_indexq (i := j) rfl (KE (t := 107) rfl) rfl rfl rfl rB rfl) ?_
  refine WP ?_
  refine at_ef rfl rfl (Zapp (KA (t := 168) rfl)) ?_
  rintro _ _ ⟨_, cc, hcc, rfl, rfl⟩
  refine ⟨ag_none, ?_⟩
  refine WQ ?_
  all_goals (refine WA ?_)
  all_goals (refine wk_of [some 0] (fun _ => [(0, .c (.r v (pR r))), (3, .o 0 0 (M ++ [(a, b)]).length _), (6, .c (.r v (pR r))), (7, .c (I (pR r).length)), (8, .c (I (k + 1 : Nat)))]) (fun _ => _) (by decide) (ZNL hE) ZCF ZCH (fun _ => ?_))
  all_goals (exact ⟨m - 1, by omega, k + 1, _, M ++ [(a, b)], by omega, by simp; omega, by simp; omega, by rw [hM3, hM], rfl, by simp [s4R]⟩)
 obtain rfl : k = r.length := by omega
 rw [List.take_of_length_le (by rw [sd4_len]; exact Nat.le_refl _)] at hM
 refine ZZ ?_
 refine WA ?_
 exact aret_f1 [] _ rfl rfl rfl rfl (by rw [List.drop_zero, List.take_of_length_le (by simp)]) (by simp) rfl (by decide) (ZNK rfl) (fun _ => .nil) (fun q => ⟨q, by rw [hM], rfl⟩)
theorem rin_near {n : Int} (h : -100000 ≤ n ∧ n ≤ 100000) : (!(decide (n < -100000) || decide (100000 < n))) = true := by
 rw [decide_eq_false (by omega), decide_eq_false (by omega)]; rfl
theorem pfault_v (r : List P2) (v : Value) (hl : r.length ≤ 1000000) (hp : ∀ p ∈ r, p.in) : ACalls Tryz.prog 160 [.c (.r v (pR r))] [] fun u H => u = .c (I 0) ∧ H = [] := by
 have e1 : (pR r).length = r.length := by simp
 refine acalls_of (N := 22) Tryz.func160 rfl rfl (by simp) fun E hE => ?_
 refine WA ?_
 refine WA ?_
 refine aw_loopw (fun m F H => ∃ (k : Nat), m + k = r.length ∧ F = [(5, .c (.r v (pR r))), (6, .c (I (pR r).length)), (7, .c (I k))] ∧ H = []) ?_ ?_
 ·refine wk_of [] (fun _ => [(5, .c (.r v (pR r))), (6, .c (I (pR r).length)), (7, .c (I (0 : Nat)))]) (fun _ => _) (by decide) (ZNL hE) ZCF (fun _ => .nil) (fun _ => ?_)
  exact ⟨r.length, 0, by omega, rfl, rfl⟩
 rintro m F H ⟨k, hk, rfl, rfl⟩
 refine WA ?_
 refine aw_if rfl (fun hlt => ?_) (fun hge => ?_)
 ·obtain ⟨p, hpk⟩ : ∃ n, r[k]? = some n := ⟨_, List.getElem?_eq_getElem (by omega)⟩
  obtain ⟨hx, hy⟩ := hp p (List.mem_of_getElem? hpk)
  obtain ⟨px, py⟩ := p
  simp only at hx hy
  have hnx := rin_near hx
  have hny := rin_near hy
  have hrow : (pR r)[k]? = some [I px, I py] := by rw [List.getElem?_map, hpk]; rfl
  refine WA ?_
  refine WR ?_
  refine al_ef rfl (ef_call0 false (fun _ => rin_v px _ _) rfl .fn rfl (by decide) (by kernel_rfl) rfl (fun _ => C0 rfl) (by simp)) ?_
  rintro _ _ ⟨_, _, _, ⟨hu, rfl⟩, hF, hH⟩
  rw [hnx] at hu; subst hu
  (refine NST hF hH ?_; clear hF hH; rintro rfl rfl)
  refine WO ?_
  first | refine ZS ?_ | (refine G1 rfl ?_; refine al_ef rfl (ef_call0 false (fun _ => rin_v py _ _) rfl .fn rfl (by decide) (by kernel_rfl) rfl (fun _ => C0 rfl) (by simp)) ?_; rintro _ _ ⟨_, _, _, ⟨hu, rfl⟩, hF, hH⟩; rw [hny] at hu; subst hu; (refine NST hF hH ?_; clear hF hH; rintro rfl rfl)) | skip
  refine WE ?_
  refine aw_cond_f rfl ?_
  refine ZZ ?_
  refine WA ?_
  refine wk_of [] (fun _ => [(5, .c (.r v (pR r))), (6, .c (I (pR r).length)), (7, .c (I (k + 1 : Nat)))]) (fun _ => []) (by decide) (ZNL hE) ZCF (fun _ => .nil) (fun _ => ?_)
  exact ⟨m - 1, by omega, k + 1, by omega, rfl, rfl⟩
 refine WA ?_
 exact aret_1 [] _ rfl rfl rfl (by decide) (ZNK rfl) (fun _ => .nil) ⟨rfl, rfl⟩
end Go.Proofs.YtlblimbelfenaaaGreat

/- Sides of all rings, and their order, by value. -/
-- NEWM
namespace Go.Proofs.YtlblimbelfenaaaGreat
open Go Go.Shelf
set_option maxRecDepth 100000
def sortSd5L_ren : Go.Shelf.Ren := ⟨fun | 6 => 154 | 15 => 129 | 14 => 209 | 28 => 174 | 29 => 175 | 20 => 239 | 21 => 240 | 22 => 241 | 23 => 242 | 24 => 243 | 25 => 244 | 26 => 245 | 27 => 246 | 46 => 254 | 47 => 216 | 48 => 217 | 49 => 255 | 50 => 256 | 57 => 258 | n => n, fun | 22 => 199 | 24 => 203 | 25 => 204 | 3 => 3 | 39 => 179 | 0 => 0 | 53 => 220 | 55 => 222 | 4 => 4 | 46 => 213 | 45 => 212 | 50 => 217 | 5 => 5 | 9 => 9 | 66 => 247 | 70 => 251 | 76 => 270 | 77 => 42 | n => n, fun | n => n⟩
theorem sortSd5L : Go.Proofs.SlLaysF0.n6 Tryz.prog sortSd5L_ren := {
 mixed := by kernel_rfl
 f6 := ⟨Tryz.f154.name, by decide, Tryz.func154.trans (congrArg some (by kernel_rfl))⟩
 f14 := ⟨Tryz.f209.name, by decide, Tryz.func209.trans (congrArg some (by kernel_rfl))⟩
 f15 := Tryz.func129.trans (congrArg some (by kernel_rfl))
 f20 := ⟨Tryz.f239.name, by decide, Tryz.func239.trans (congrArg some (by kernel_rfl))⟩
 f21 := ⟨Tryz.f240.name, by decide, Tryz.func240.trans (congrArg some (by kernel_rfl))⟩
 f22 := ⟨Tryz.f241.name, by decide, Tryz.func241.trans (congrArg some (by kernel_rfl))⟩
 f23 := ⟨Tryz.f242.name, by decide, Tryz.func242.trans (congrArg some (by kernel_rfl))⟩
 f24 := ⟨Tryz.f243.name, by decide, Tryz.func243.trans (congrArg some (by kernel_rfl))⟩
 f25 := ⟨Tryz.f244.name, by decide, Tryz.func244.trans (congrArg some (by kernel_rfl))⟩
 f26 := ⟨Tryz.f245.name, by decide, Tryz.func245.trans (congrArg some (by kernel_rfl))⟩
 f27 := ⟨Tryz.f246.name, by decide, Tryz.func246.trans (congrArg some (by kernel_rfl))⟩
 f28 := Tryz.func174.trans (congrArg some (by kernel_rfl))
 f29 := Tryz.func175.trans (congrArg some (by kernel_rfl))
 f46 := ⟨Tryz.f254.name, by decide, Tryz.func254.trans (congrArg some (by kernel_rfl))⟩
 f47 := Tryz.func216.trans (congrArg some (by kernel_rfl))
 f48 := Tryz.func217.trans (congrArg some (by kernel_rfl))
 f49 := ⟨Tryz.f255.name, by decide, Tryz.func255.trans (congrArg some (by kernel_rfl))⟩
 f50 := ⟨Tryz.f256.name, by decide, Tryz.func256.trans (congrArg some (by kernel_rfl))⟩
 f57 := ⟨Tryz.f258.name, by decide, Tryz.func258.trans (congrArg some (by kernel_rfl))⟩
 t0 := Tryz.underlying0
 a0 := Tryz.isAgg0
 z0 := Tryz.sizeOf0
 v0 := Tryz.zeroValue0
 t3 := Tryz.underlying3
 a3 := Tryz.isAgg3
 z3 := Tryz.sizeOf3
 v3 := Tryz.zeroValue3
 t4 := Tryz.underlying4
 a4 := Tryz.isAgg4
 z4 := Tryz.sizeOf4
 v4 := Tryz.zeroValue4
 t5 := Tryz.underlying5
 a5 := Tryz.isAgg5
 z5 := Tryz.sizeOf5
 v5 := Tryz.zeroValue5
 t9 := Tryz.underlying9
 a9 := Tryz.isAgg9
 z9 := Tryz.sizeOf9
 v9 := Tryz.zeroValue9
 t22 := Tryz.underlying199
 a22 := Tryz.isAgg199
 z22 := Tryz.sizeOf199
 v22 := Tryz.zeroValue199
 t25 := Tryz.underlying204
 a25 := Tryz.isAgg204
 z25 := Tryz.sizeOf204
 v25 := Tryz.zeroValue204
 t39 := Tryz.underlying179
 a39 := Tryz.isAgg179
 z39 := Tryz.sizeOf179
 v39 := Tryz.zeroValue179
 t45 := Tryz.underlying212
 a45 := Tryz.isAgg212
 z45 := Tryz.sizeOf212
 v45 := Tryz.zeroValue212
 t46 := Tryz.underlying213
 a46 := Tryz.isAgg213
 z46 := Tryz.sizeOf213
 v46 := Tryz.zeroValue213
 t50 := Tryz.underlying217
 a50 := Tryz.isAgg217
 z50 := Tryz.sizeOf217
 v50 := Tryz.zeroValue217
 t53 := Tryz.underlying220
 a53 := Tryz.isAgg220
 z53 := Tryz.sizeOf220
 v53 := Tryz.zeroValue220
 t55 := Tryz.underlying222
 a55 := Tryz.isAgg222
 z55 := Tryz.sizeOf222
 v55 := Tryz.zeroValue222
 t66 := Tryz.underlying247
 a66 := Tryz.isAgg247
 z66 := Tryz.sizeOf247
 v66 := Tryz.zeroValue247
 t70 := Tryz.underlying251
 a70 := Tryz.isAgg251
 z70 := Tryz.sizeOf251
 v70 := Tryz.zeroValue251
 t76 := Tryz.underlying270
 a76 := Tryz.isAgg270
 z76 := Tryz.sizeOf270
 v76 := Tryz.zeroValue270
 t77 := Tryz.underlying42
 a77 := Tryz.isAgg42
 z77 := Tryz.sizeOf42
 v77 := Tryz.zeroValue42 }
end Go.Proofs.YtlblimbelfenaaaGreat
namespace Go.Proofs.YtlblimbelfenaaaGreat
open Go Go.RowKit
set_option maxRecDepth 100000
structure Sd5 where
 r : Int
 a : P2
 b : P2
abbrev Sd5.row (s : Sd5) : List CV := [I s.r, I s.a.x, I s.a.y, I s.b.x, I s.b.y]
abbrev s5R (l : List Sd5) : List (List CV) := l.map Sd5.row
def s5Of : List CV → Sd5
 | [.s (.int _ r), .s (.int _ x), .s (.int _ y), .s (.int _ z), .s (.int _ w)] => ⟨r, ⟨x, y⟩, ⟨z, w⟩⟩
 | _ => ⟨0, ⟨0, 0⟩, ⟨0, 0⟩⟩
theorem s5Of_row (s : Sd5) : s5Of s.row = s := rfl
def key5 (s : Sd5) : Int := min s.a.x s.b.x
theorem cmp5_v (s t : Sd5) : ACalls Tryz.prog 155 [.a (s.row.map .c), .a (t.row.map .c)] [] fun u H => u = .c (I (cmpI (key5 s) (key5 t))) ∧ H = [] := by
 obtain ⟨r, ⟨ax, ay⟩, ⟨bx, by'⟩⟩ := s
 obtain ⟨r', ⟨cx, cy⟩, ⟨dx, dy⟩⟩ := t
 refine acalls_of (N := 20) Tryz.func155 rfl rfl (by simp) fun E hE => ?_
 refine WA ?_
 refine WR ?_
 refine al_ef rfl (ef_call0 false (fun _ => cmpI_v _ _) rfl .fn rfl (by decide) (by kernel_rfl) rfl (fun _g => .cons (.c rfl) (.cons (.c rfl) .nil)) (by simp)) ?_
 rintro _ _ ⟨_, _, _, ⟨rfl, rfl⟩, hF, hH⟩
 (refine NST hF hH ?_; clear hF hH; rintro rfl rfl)
 refine WE ?_
 exact aret_1 [] _ rfl rfl rfl (by decide) (ZNK rfl) (fun _ => .nil) ⟨rfl, rfl⟩
theorem cmpI_lt (m n : Int) : cmpI m n < 0 ↔ m < n := by unfold cmpI; split <;> (try split) <;> omega
theorem sort5_v (l : List Sd5) (c : Nat) (hl : l.length ≤ 1000000) :
    ACallsX true Tryz.prog 154 [.o 0 0 l.length c, .f (.func 155) []] [.arr 203 5 c (s5R l)] fun u H => ∃ l' : List Sd5, u = .t [] ∧ H = [.arr 203 5 c (s5R l')] ∧ l'.Perm l ∧ l'.Pairwise fun x y => key5 x ≤ key5 y := by
 have h := acalls_sort sortSd5L (k := 5) (fun w => Tryz.isAgg203 w) (fun w => Tryz.sizeOf203 w) (fun x => ∃ s : Sd5, x = s.row) (fun x y => cmpI (key5 (s5Of x)) (key5 (s5Of y))) (g := 155) (by kernel_rfl)
  (by rintro _ ⟨s, rfl⟩; rw [cmpI_lt]; omega)
  (by rintro _ _ _ ⟨a, rfl⟩ ⟨b, rfl⟩ ⟨c, rfl⟩; simp only [cmpI_lt, s5Of_row]; omega)
  (by rintro _ _ _ ⟨a, rfl⟩ ⟨b, rfl⟩ ⟨c, rfl⟩; simp only [cmpI_lt, s5Of_row]; omega)
  (by rintro _ _ ⟨a, rfl⟩ ⟨b, rfl⟩; exact cmp5_v a b)
  (s5R l) (by intro r hr; obtain ⟨s, _, rfl⟩ := List.mem_map.1 hr; exact ⟨s, rfl⟩) (by simp; omega) (e := 203) (cap := c) (n := l.length) (c := c) (pn := true) (by simp)
 refine ACallsX.mono h fun u H => ?_
 rintro ⟨rows', rfl, rfl, hp, hs⟩
 have h2 := hp.map s5Of
 rw [s5R, List.map_map, show (s5Of ∘ Sd5.row) = id from funext fun s => rfl, List.map_id] at h2
 refine ⟨rows'.map s5Of, rfl, ?_, h2, ?_⟩
 ·congr 2
  rw [s5R, List.map_map]
  refine (List.map_id _).symm.trans (List.map_congr_left fun r hr => ?_)
  obtain ⟨s, _, rfl⟩ := List.mem_map.1 (hp.subset hr)
  rfl
 ·rw [List.pairwise_map]
  refine hs.imp fun {x y} h => ?_
  rw [cmpI_lt] at h
  omega
end Go.Proofs.YtlblimbelfenaaaGreat

/- Plain law: closed meshes have closed contours alone, and each side that is cut is in one of them, once. -/
namespace Go.Proofs.YtlblimbelfenaaaGreat
theorem PassP.all {N : Nxt} {F : Sid2 → Bool} {l sn sn' : List Sid2} {o : List (List Sid2 × Bool)} (h : PassP N F true l sn o sn') : ∀ f ∈ l, f ∈ sn' := by
 induction h with
 | nil => intro f hf; cases hf
 | skip h1 h2 ih =>
  intro f hf
  rcases List.mem_cons.1 hf with rfl | hf
  ·rcases h1 with h1 | ⟨h1, _⟩
   ·exact h2.heads.1 _ h1
   ·cases h1
  ·exact ih f hf
 | take _ _ _ h2 ih =>
  intro f hf
  rcases List.mem_cons.1 hf with rfl | hf
  ·exact h2.heads.1 _ (List.mem_append_right _ List.mem_cons_self)
  ·exact ih f hf
theorem Ch.rvs {N : Nxt} {f a : Sid2} {l : List Sid2} {c : Bool} (h : Ch N f a l c) : ∀ t, Rv N f (a :: t) → ∃ L, Rv N f L ∧ L.reverse = (a :: t).reverse ++ l := by
 induction h with
 | stop _ => intro t hr; exact ⟨_, hr, by simp⟩
 | back _ => intro t hr; exact ⟨_, hr, by simp⟩
 | go h1 h2 _ ih =>
  intro t hr
  obtain ⟨L, h3, h4⟩ := ih _ (.more hr h1 h2)
  exact ⟨L, h3, by rw [h4]; simp⟩
theorem Ch.nodup {S : List Seg5} (hok : SegOk S) {f : Sid2} {l : List Sid2} {c : Bool} (h : Ch (nxt S) f f l c) : (f :: l).Nodup := by
 obtain ⟨L, h1, h2⟩ := h.rvs [] .one
 have h3 := h1.nodup hok.inj
 have h4 : f :: l = L.reverse := by rw [h2]; simp
 rw [h4]
 exact (List.reverse_perm L).nodup_iff.2 h3
theorem Ch.back_ {N : Nxt} {f a : Sid2} {l : List Sid2} {c : Bool} {sn : List Sid2} (hs : Seen N sn) (h : Ch N f a l c) : ∀ x ∈ l, x ∈ sn → a ∈ sn := by
 induction h with
 | stop _ => intro x hx; cases hx
 | back _ => intro x hx; cases hx
 | go h1 _ _ ih =>
  intro x hx hm
  rcases List.mem_cons.1 hx with rfl | hx
  ·exact hs.prev _ _ h1 hm
  ·exact hs.prev _ _ h1 (ih x hx hm)
theorem PassP.nodup {S : List Seg5} (hok : SegOk S) (hfol : ∀ g ∈ S, folB S g.fr = true) {l sn sn' : List Sid2} {o : List (List Sid2 × Bool)} (h : PassP (nxt S) (folB S) true l sn o sn') : (∀ f ∈ l, f ∈ S.map (·.fr)) → Seen (nxt S) sn → sn.Nodup → sn'.Nodup ∧ Seen (nxt S) sn' := by
 induction h with
 | nil => intro _ h1 h2; exact ⟨h2, h1⟩
 | skip _ _ ih => intro h0 h1 h2; exact ih (fun f hf => h0 f (List.mem_cons_of_mem _ hf)) h1 h2
 | take h1 hnn hc hpp ih =>
  rename_i f l sn sn' r o c
  intro h0 hs hn
  have hcc : c = true := row_closed hok hs (fun g hg _ => hfol g hg) (h0 f List.mem_cons_self) h1 hc
  refine ih (fun x hx => h0 x (List.mem_cons_of_mem _ hx)) (hs.take hok.inj hc (.inl hcc)) ?_
  rw [List.nodup_append]
  refine ⟨hn, hc.nodup hok, fun x hx y hy e => ?_⟩
  subst e
  rcases List.mem_cons.1 hy with rfl | hy
  ·exact h1 hx
  ·exact h1 (hc.back_ hs x hy hx)
theorem Ch.fr {S : List Seg5} {f a : Sid2} {l : List Sid2} {c : Bool} (h : Ch (nxt S) f a l c) : ∀ x ∈ l, ∃ g ∈ S, g.to = x := by
 induction h with
 | stop _ => intro x hx; cases hx
 | back _ => intro x hx; cases hx
 | go h1 _ _ ih =>
  intro x hx
  rcases List.mem_cons.1 hx with rfl | hx
  ·obtain ⟨g, hg, _, e⟩ := nxt_some h1; exact ⟨g, hg, e⟩
  ·exact ih x hx
end Go.Proofs.YtlblimbelfenaaaGreat
