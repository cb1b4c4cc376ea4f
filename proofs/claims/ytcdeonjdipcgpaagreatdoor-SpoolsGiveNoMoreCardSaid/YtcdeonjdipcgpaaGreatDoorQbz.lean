/- From the row of JobsFollowed to the table of powers of ten. -/
import Derived.Test.YtcdeonjdipcgpaaGreatDoorQbp
import Derived.Test.YtcdeonjdipcgpaaGreatDoorQbr
import Derived.Test.YtcdeonjdipcgpaaGreatDoorQbx
import Derived.Test.YtcdeonjdipcgpaaGreatDoorQby
import Derived.WideLaws
import Derived.Test.YtcdeonjdipcgpaaGreatDoorQbw
import Derived.Test.YtcdeonjdipcgpaaGreatDoorRows
import Derived.Lib.LaidTab
import Derived.Stop.LaidErr
import Derived.MakeChecks
set_option linter.unusedSimpArgs false
set_option linter.unusedVariables false
-- NEWM
namespace Go.Proofs.YtcdeonjdipcgpaaGreatDoor
open Go Go.RowKit
set_option maxRecDepth 1000000
theorem rd_neqi0 {P : Program} {N : Nat} {E : Env} {F : Fm} {H : List OB} {o : Oper} {t yt : TypeId} {x : Operand} (ho : o.op = .binOp .neq t x (.const .nilIface) yt) (ht : P.underlying t = some (.interface (P.methodsAt t))) (hx : ev F x = some (.c (.s .nilIface))) : Rd P N E o F H (.c (.s (.bool false))) :=
 zb2 ho hx rfl (fun _ _ => rfl) (fun _ _ => rfl) fun w => by
  rw [Sem.run_bind]
  refine Eq.trans (congrArg (fun r => Result.andThen r _) (show (eqGuard .neq t x (.const .nilIface) .nilIface .nilIface).run P w = .ok () w by rw [eqGuard_nil_constR]; rfl)) ?_
  exact run_neq_nil_nil w t ht
theorem ldS_take {s : List UInt8} {l : List Nt} {k : Nat} {x : Nt} (h : l[k]? = some x) : ldS s (l.take (k + 1)) = ldS s (l.take k) + ldT s x := by
 unfold ldS
 rw [List.take_add_one, h, List.map_append, List.sum_append_int]
 simp
set_option maxHeartbeats 1500000 in
theorem law_spools (v : Value) (zs : List Int) (hs : StrOk zs) : ACallsW TabX false Tryz.prog 6 [.c (.r v (zs.map fun z => [I z]))] [] fun u H => u = .c (B true) := by
 refine acallsW_of tabX_stp false (N := 123) Tryz.func6 rfl rfl (by simp) fun E hE hP hX => ?_
 refine WA ?_
 refine WA ?_
 refine WR ?_
 refine zh rfl (za2 [0] (fun _ => [strm v zs 0]) false (fun _ => rightnotes_f 20 (by omega) v zs 0 hs (by omega) (by omega)) rfl .fn rfl (by decide) (by kernel_rfl) rfl (fun _g => .cons (.p rfl) (.cons (.c rfl) .nil)) (by decide) ZCH (by simp)) ?_
 rintro F1 H1 ⟨_, _, _, _, ⟨la, cla, ala, hfla, ha1la, ha2la, hlla, hkla, hbla, hcla, rfl, rfl⟩, hF, hH⟩
 (refine NSU hF hH ?_; clear hF hH; rintro rfl rfl)
 refine WO ?_
 refine zh rfl (zi false (fun _ => range_f 0 100 _ _ _ hs (by omega) (by omega) (by omega) (by omega) (by omega) (by omega)) rfl .fn rfl (by decide) (by kernel_rfl) rfl rfl (fun _g => .cons (.p rfl) (.cons (.c rfl) (.cons (.c rfl) .nil))) (fun _g => .cons (.c rfl) (.cons (.c rfl) .nil)) (by simp)) ?_
 rintro F1 H1 ⟨_, _, _, _, ⟨r1, ar1, rfl, hq, hx1r1, hx2r1, hx3r1, hx4r1, _, hvr1⟩, hF, hH⟩
 injection hq with hq1 hq2; subst hq1; subst hq2
 (refine NST hF hH ?_; clear hF hH; rintro rfl rfl)
 obtain ⟨nr1, hnr1⟩ : ∃ m : Nat, r1 = (m : Int) := ⟨(r1).toNat, by omega⟩
 subst hnr1
 have hx5r1 := hx4r1 (by omega)
 refine WE ?_
 refine aw_wk (zo (K := fun F H => ∃ va, F = [(4, .c (.r va (noRs la))), (5, .c (I (nr1 : Nat)))] ∧ H = []) [] (fun g => [(4, .c (.r (g (.o 1 0 la.length cla)) (noRs la))), (5, .c (I (nr1 : Nat)))]) (fun _ => []) (by decide) (ZNL hE) (fun _ => .cons rfl (.frz rfl rfl (by rw [List.drop_zero, List.take_of_length_le (by simp)]) (by simp) rfl) (.cons rfl (.c rfl) .nil)) ZCH (fun _ => ⟨_, rfl, rfl⟩)) ?_
 rintro F H ⟨va, rfl, rfl⟩
 obtain ⟨at_, hat⟩ : ∃ at_ : Int, (nr1 : Int) = at_ := ⟨_, rfl⟩
 rw [hat]
 have hAs : ∀ x ∈ la, NtS x := fun x hx => (hbla x hx).s
 have hll : la.length ≤ 1000000 := by omega
 have hmo : moB at_ = true := by unfold moB outB; rw [decide_eq_false (by omega), decide_eq_false (by omega)]; rfl
 have h0 : askF la at_ = 0 := by unfold askF; rw [if_neg (by rw [hkla]; simp), hmo]; rfl
 have hspv : ∀ x ∈ la, x.sp ∈ spS := fun x hx => rgt_sp (zs := zs) (many := 20) 8 0 x (by rw [hfla]; exact hx)
 have hfil := filamentP_v sortedKeys_ok va la at_ hll hAs
 rw [h0] at hfil
 clear hs
 refine ZZ ?_
 refine WR ?_
 refine zh rfl (ef_call0W TabX (hX _ _) false (fun _ => hfil) rfl .fn rfl (by decide) (by kernel_rfl) rfl (fun _ => C0 rfl) (by simp)) ?_
 rintro _ _ ⟨_, _, _, ⟨rp, crp, hrp, hrpl, hcrp, rfl, rfl⟩, hF, hH⟩
 (refine NST hF hH ?_; clear hF hH; rintro rfl rfl)
 refine WE ?_
 have hrp' := (hrp.resolve_left fun h => h.1 rfl).2
 obtain ⟨hr2, hry, hrn⟩ := fil_facts h0 hspv hrp'
 clear hrp hrp'
 refine WA ?_
 refine za rfl ?_
 refine ZZ ?_
 refine ZR ?_
 refine zh rfl Ybsr ?_
 rintro _ _ ⟨vst, rfl, rfl⟩
 refine WE ?_
 refine zP (fun m F H => ∃ (v6 : Value) (k : Nat), m + k = 2 ∧ F = [(4, .c (.r va (noRs la))), (5, .c (I at_)), (6, .c (.r v6 (prRs rp))), (38, .c (.r vst [[T [115]], [T [116]]])), (39, .c (I 2)), (40, .c (I (k)))] ∧ H = []) ?_ ?_
 ·refine zo [] (fun g => [(4, .c (.r va (noRs la))), (5, .c (I at_)), (6, .c (.r (g (.o 0 0 rp.length crp)) (prRs rp))), (38, .c (.r vst [[T [115]], [T [116]]])), (39, .c (I 2)), (40, .c (I (0 : Nat)))]) (fun _ => []) (by decide) (ZNL hE) (fun _ => .cons rfl (.c rfl) (.cons rfl (.c rfl) (.cons rfl (.frz rfl rfl (by rw [List.drop_zero, List.take_of_length_le (by simp)]) (by simp) rfl) (.cons rfl (.c rfl) (.cons rfl (.c rfl) (.cons rfl (.c rfl) .nil)))))) (fun _ => .nil) (fun _ => ⟨2, _, 0, rfl, rfl, rfl⟩)
 rintro m F H ⟨v6, k, hk, rfl, rfl⟩
 refine WA ?_
 refine zz rfl (fun hlt => ?_) (fun hge => ?_)
 ·obtain ⟨s, hs, hky⟩ : ∃ s : List UInt8, ([[T [115]], [T [116]]] : List (List CV))[k]? = some [T s] ∧ s.length = 1 ∧ keyB s = true := by
   rcases (show k = 0 ∨ k = 1 by omega) with rfl | rfl
   ·exact ⟨[115], rfl, rfl, by decide⟩
   ·exact ⟨[116], rfl, rfl, by decide⟩
  obtain ⟨hsl, hky⟩ := hky
  have hus := usd_ok (l := la) (s := s) (at_ := at_) (by rw [h0, if_neg (by simp)]; unfold keyE; rw [if_pos hky])
  obtain ⟨hu0, hu1⟩ := used_le at_ hkla s
  have husd := used_v va la at_ hll hAs s (by omega)
  rw [hus] at husd
  simp only at husd
  generalize (mget (bksF la (cntP at_ la)).1.us s).getD 0 = uu at husd hu0 hu1
  refine WA ?_
  refine WR ?_
  refine zh rfl (zc false (fun _ => husd) rfl .fn rfl (by decide) (by kernel_rfl) rfl (fun _ => C0 rfl) (by simp)) ?_
  rintro _ _ ⟨_, _, _, ⟨rfl, rfl⟩, hF, hH⟩
  (refine NST hF hH ?_; clear hF hH; rintro rfl rfl)
  refine WE ?_
  refine WA ?_
  refine WA ?_
  have e1 : (noRs la).length = la.length := by simp
  refine zP (fun m F H => ∃ (j : Nat) (on : Int), m + j = la.length ∧ ldS s (la.take j) = on ∧ 0 ≤ on ∧ on ≤ 100000000 * j ∧ F = [(4, .c (.r va (noRs la))), (5, .c (I at_)), (6, .c (.r v6 (prRs rp))), (9, .c (T s)), (10, .c (I uu)), (11, .c (I 0)), (12, .c (I (on))), (38, .c (.r vst [[T [115]], [T [116]]])), (39, .c (I 2)), (40, .c (I (k : Nat))), (51, .c (.r va (noRs la))), (52, .c (I (noRs la).length)), (53, .c (I (j)))] ∧ H = []) ?_ ?_
  ·refine zo [] (fun _ => [(4, .c (.r va (noRs la))), (5, .c (I at_)), (6, .c (.r v6 (prRs rp))), (9, .c (T s)), (10, .c (I uu)), (11, .c (I 0)), (12, .c (I (0))), (38, .c (.r vst [[T [115]], [T [116]]])), (39, .c (I 2)), (40, .c (I (k : Nat))), (51, .c (.r va (noRs la))), (52, .c (I (noRs la).length)), (53, .c (I (0 : Nat)))]) (fun _ => []) (by decide) (ZNL hE) ZCF (fun _ => .nil) (fun _ => ⟨la.length, 0, 0, rfl, rfl, Int.le_refl _, by omega, rfl, rfl⟩)
  ·rintro m2 F H ⟨j, on, hj, hon, hon0, hon1, rfl, rfl⟩
   refine WA ?_
   refine zz rfl (fun hlt2 => ?_) (fun hge2 => ?_)
   ·obtain ⟨x, hx⟩ : ∃ n, la[j]? = some n := ⟨_, List.getElem?_eq_getElem (by omega)⟩
    have hrow0 := zo2 hx
    have hxn := (zp1 hkla).2 x (List.mem_of_getElem? hx)
    have hld := ldS_take (s := s) hx
    rw [hon] at hld
    have hn5 := (ntF_ok hxn).2.2.1
    clear hxn
    obtain ⟨st, no, xat, kn, pr, jb, sp, n, of_, ot⟩ := x
    have hrow : (noRs la)[j]? = some [T st, I no, I xat, I kn, T pr, T jb, T sp, I n, T of_, I ot] := hrow0
    simp only at hn5
    obtain ⟨q, hq⟩ : ∃ q, decide (sp = s) = q := ⟨_, rfl⟩
    have hld2 : ldT s ⟨st, no, xat, kn, pr, jb, sp, n, of_, ot⟩ = if kn = 5 ∧ q = true then n else 0 := by subst hq; simp [ldT]
    rw [hld2] at hld
    clear hld2 hrow0
    refine WA ?_
    by_cases h5 : kn = 5
    ·subst h5
     have hnb := hn5 rfl
     refine ZR ?_
     iterate 7 refine WX1 ?_
     first | refine ZP (zc1 (a := sp) (b := s) hq rfl Tryz.underlying9 rfl rfl) ?_ | refine ZS ?_
     refine WE ?_
     cases q with
     | true =>
      rw [if_pos ⟨rfl, rfl⟩] at hld
      refine zb rfl ?_
      refine WA ?_
      refine WA ?_
      refine zo [] (fun _ => [(4, .c (.r va (noRs la))), (5, .c (I at_)), (6, .c (.r v6 (prRs rp))), (9, .c (T s)), (10, .c (I uu)), (11, .c (I 0)), (12, .c (I (on + n))), (38, .c (.r vst [[T [115]], [T [116]]])), (39, .c (I 2)), (40, .c (I (k : Nat))), (51, .c (.r va (noRs la))), (52, .c (I (noRs la).length)), (53, .c (I (j + 1 : Nat)))]) (fun _ => []) (by decide) (ZNL hE) ZCF (fun _ => .nil) (fun _ => ⟨m2 - 1, by omega, j + 1, on + n, by omega, hld, by omega, by omega, rfl, rfl⟩)
     | false =>
      rw [if_neg (fun h => Bool.noConfusion h.2), Int.add_zero] at hld
      refine za rfl ?_
      refine ZZ ?_
      refine WA ?_
      refine zo [] (fun _ => [(4, .c (.r va (noRs la))), (5, .c (I at_)), (6, .c (.r v6 (prRs rp))), (9, .c (T s)), (10, .c (I uu)), (11, .c (I 0)), (12, .c (I (on))), (38, .c (.r vst [[T [115]], [T [116]]])), (39, .c (I 2)), (40, .c (I (k : Nat))), (51, .c (.r va (noRs la))), (52, .c (I (noRs la).length)), (53, .c (I (j + 1 : Nat)))]) (fun _ => []) (by decide) (ZNL hE) ZCF (fun _ => .nil) (fun _ => ⟨m2 - 1, by omega, j + 1, on, by omega, hld, by omega, by omega, rfl, rfl⟩)
    ·rw [if_neg (fun h => h5 h.1), Int.add_zero] at hld
     refine ZR ?_
     iterate 7 refine WX1 ?_
     first | refine ZP (zc1 (a := sp) (b := s) hq rfl Tryz.underlying9 rfl rfl) ?_ | refine ZS ?_
     refine WE ?_
     refine za rfl ?_
     refine ZZ ?_
     refine WA ?_
     refine zo [] (fun _ => [(4, .c (.r va (noRs la))), (5, .c (I at_)), (6, .c (.r v6 (prRs rp))), (9, .c (T s)), (10, .c (I uu)), (11, .c (I 0)), (12, .c (I (on))), (38, .c (.r vst [[T [115]], [T [116]]])), (39, .c (I 2)), (40, .c (I (k : Nat))), (51, .c (.r va (noRs la))), (52, .c (I (noRs la).length)), (53, .c (I (j + 1 : Nat)))]) (fun _ => []) (by decide) (ZNL hE) ZCF (fun _ => .nil) (fun _ => ⟨m2 - 1, by omega, j + 1, on, by omega, hld, by omega, by omega, rfl, rfl⟩)
   obtain rfl : j = la.length := by omega
   rw [List.take_length] at hon
   rw [hon] at hu1
   have hn1 : ¬ uu < 0 := by omega
   have hn2 : ¬ uu > on := by omega
   refine ZZ ?_
   refine WA ?_
   refine za rfl ?_
   refine ZZ ?_
   refine WA ?_
   exact zo [] (fun _ => [(4, .c (.r va (noRs la))), (5, .c (I at_)), (6, .c (.r v6 (prRs rp))), (38, .c (.r vst [[T [115]], [T [116]]])), (39, .c (I 2)), (40, .c (I (k + 1 : Nat)))]) (fun _ => []) (by decide) (ZNL hE) ZCF (fun _ => .nil) (fun _ => ⟨m - 1, by omega, v6, k + 1, by omega, rfl, rfl⟩)
 refine ZZ ?_
 refine WA ?_
 refine WA ?_
 have e2 : (prRs rp).length = rp.length := by simp
 refine zP (fun m F H => ∃ (k : Nat) (q : List UInt8), m + k = rp.length ∧ ((k = 0 ∧ q = []) ∨ (k = 1 ∧ ∃ y, rp[0]? = some y ∧ q = y.2.take 1 ++ [32] ∧ q.length = 2) ∨ (k = 2 ∧ q.length = 4)) ∧ F = [(15, .c (T (q))), (83, .c (.r v6 (prRs rp))), (84, .c (I (prRs rp).length)), (85, .c (I (k)))] ∧ H = []) ?_ ?_
 ·refine zo [] (fun _ => [(15, .c (T ([]))), (83, .c (.r v6 (prRs rp))), (84, .c (I (prRs rp).length)), (85, .c (I (0 : Nat)))]) (fun _ => []) (by decide) (ZNL hE) ZCF (fun _ => .nil) (fun _ => ⟨rp.length, 0, [], rfl, .inl ⟨rfl, rfl⟩, rfl, rfl⟩)
 rintro m F H ⟨k, q, hk, hq, rfl, rfl⟩
 refine WA ?_
 refine zz rfl (fun hlt => ?_) (fun hge => ?_)
 ·obtain ⟨⟨y1, y2⟩, hy⟩ : ∃ n, rp[k]? = some n := ⟨_, List.getElem?_eq_getElem (by omega)⟩
  obtain ⟨c, lv, hc, hl0, hl1, hy2⟩ := hry _ (List.mem_of_getElem? hy)
  simp only at hy2
  have hc32 : (32 : UInt8) ∉ [c] := by rcases hc with rfl | rfl <;> decide
  have hql : q.length ≤ 2 ∧ ¬ [c, 32] = q := by
   rcases hq with ⟨_, rfl⟩ | ⟨hk1, y, hy0, rfl, hyl⟩ | ⟨hk2, _⟩
   ·exact ⟨by simp, by simp⟩
   ·refine ⟨by omega, fun he => ?_⟩
    subst hk1
    have hne := List.pairwise_iff_getElem.1 hrn 0 1 (by simp; omega) (by simp; omega) (by omega)
    obtain ⟨a1, a2⟩ := List.getElem?_eq_some_iff.1 hy
    obtain ⟨b1, b2⟩ := List.getElem?_eq_some_iff.1 hy0
    rw [List.getElem_map, List.getElem_map, a2, b2] at hne
    simp only at hne
    rw [hy2] at hne
    have h3 : y.2.take 1 = [c] := List.append_cancel_right (bs := [32]) (by rw [← he]; rfl)
    exact hne (by rw [h3]; simp)
   ·omega
  have hqn : ∀ y, rp[0]? = some y → k = 0 → q ++ ([c] ++ [32]) = y.2.take 1 ++ [32] := fun y hy0 hk0 => by
   subst hk0
   rcases hq with ⟨_, rfl⟩ | ⟨h, _⟩ | ⟨h, _⟩
   ·have hy1 : y = (y1, y2) := Option.some.inj (hy0.symm.trans hy)
    rw [hy1]
    show [] ++ ([c] ++ [32]) = y2.take 1 ++ [32]
    rw [hy2]
    rfl
   ·cases h
   ·cases h
  have hq3 : (k + 1 = 0 ∧ q ++ ([c] ++ [32]) = []) ∨ (k + 1 = 1 ∧ ∃ y, rp[0]? = some y ∧ q ++ ([c] ++ [32]) = y.2.take 1 ++ [32] ∧ (q ++ ([c] ++ [32])).length = 2) ∨ (k + 1 = 2 ∧ (q ++ ([c] ++ [32])).length = 4) := by
   rcases hq with ⟨hk0, hq0⟩ | ⟨hk1, y, hy0, hq0, hyl⟩ | ⟨hk2, _⟩
   ·refine .inr (.inl ⟨by omega, (y1, y2), by rw [← hk0]; exact hy, hqn _ (by rw [← hk0]; exact hy) hk0, by rw [hq0]; rfl⟩)
   ·exact .inr (.inr ⟨by omega, by simp [hyl]⟩)
   ·omega
  have hrow : (prRs rp)[k]? = some [T y1, T y2] := by rw [List.getElem?_map, hy]; rfl
  subst hy2
  have hcut := cut_yes [c] (Lib.itoa lv) 32 hc32 (by have := itoa_short lv hl0 hl1; simp; omega)
  have hato := atoi_v (Lib.itoa lv) lv (by have := itoa_short lv hl0 hl1; omega) (atoi_back lv hl0)
  have hcon := contains2_v q c 32 hql.1
  rw [decide_eq_false hql.2] at hcon
  have hln : ¬ lv < 0 := by omega
  have hqb : q.length ≤ 1000 := by have := hql.1; omega
  clear hqn hq hy hql
  refine WA ?_
  refine WR ?_
  refine zh rfl (zc false (fun _ => hcut) rfl .fn rfl (by decide) (by kernel_rfl) rfl (fun _ => C0 rfl) (by simp)) ?_
  rintro _ _ ⟨_, _, _, ⟨rfl, rfl⟩, hF, hH⟩
  (refine NST hF hH ?_; clear hF hH; rintro rfl rfl)
  refine WE ?_
  refine WR ?_
  refine zh rfl (zc false (fun _ => hato) rfl .fn rfl (by decide) (by kernel_rfl) rfl (fun _ => C0 rfl) (by simp)) ?_
  rintro _ _ ⟨_, _, _, ⟨rfl, rfl⟩, hF, hH⟩
  (refine NST hF hH ?_; clear hF hH; rintro rfl rfl)
  refine WE ?_
  refine ZR ?_
  iterate 4 refine WX1 ?_
  first | refine ZP (rd_neqi0 rfl (by kernel_rfl) rfl) ?_ | refine ZS ?_
  iterate 8 refine WX1 ?_
  first | refine ZP (rd_adds (a := [c]) (b := [32]) rfl Tryz.underlying9 rfl rfl (by simp)) ?_ | refine ZS ?_
  first | refine ZS ?_ | (refine G1 rfl ?_; refine zh rfl (zc false (fun _ => hcon) rfl .fn rfl (by decide) (by kernel_rfl) rfl (fun _ => C0 rfl) (by simp)) ?_; rintro _ _ ⟨_, _, _, ⟨rfl, rfl⟩, hF, hH⟩; (refine NST hF hH ?_; clear hF hH; rintro rfl rfl)) | skip
  refine WE ?_
  refine za rfl ?_
  refine ZZ ?_
  refine ZR ?_
  iterate 2 refine WX1 ?_
  refine ZA (rd_adds (a := [c]) (b := [32]) rfl Tryz.underlying9 rfl rfl (by simp)) ?_
  refine ZA (rd_adds (a := q) (b := [c] ++ [32]) rfl Tryz.underlying9 rfl rfl (by simp; omega)) ?_
  refine WE ?_
  refine WA ?_
  exact zo [] (fun _ => [(15, .c (T (q ++ ([c] ++ [32])))), (83, .c (.r v6 (prRs rp))), (84, .c (I (prRs rp).length)), (85, .c (I (k + 1 : Nat)))]) (fun _ => []) (by decide) (ZNL hE) ZCF (fun _ => .nil) (fun _ => ⟨m - 1, by omega, k + 1, q ++ ([c] ++ [32]), by omega, hq3, rfl, rfl⟩)
 refine ZZ ?_
 refine ZR ?_
 refine zh rfl (zc false (fun _ => ready_a) rfl .fn rfl (by decide) (by kernel_rfl) rfl (fun _ => C0 rfl) (by simp)) ?_
 rintro _ _ ⟨_, _, _, ⟨rfl, rfl⟩, hF, hH⟩
 (refine NST hF hH ?_; clear hF hH; rintro rfl rfl)
 refine WE ?_
 exact zf [] _ rfl rfl rfl (by decide) (ZNK rfl) (fun _ => .nil) rfl
end Go.Proofs.YtcdeonjdipcgpaaGreatDoor
namespace Go.Proofs.YtcdeonjdipcgpaaGreatDoor
open Go Go.RowKit
set_option maxRecDepth 100000
theorem tab_of {W : World} {r : List (String × DataW Unit)} (h : laidMet Tryz.prog (("internal/strconv.uint64pow10", Lib.tabData .u64 Lib.pow10Tab) :: r) W) : TabX W :=
 Lib.tabIs_of_head (g := 3) (t := 365) (e := 265) (n := 20) (by kernel_rfl) (by kernel_rfl) (by kernel_rfl) (by kernel_rfl) (by kernel_rfl) (by kernel_rfl) h
end Go.Proofs.YtcdeonjdipcgpaaGreatDoor
