/- The law HeightsAreInside, walked. -/
import Derived.Test.YthanangkmjjbaaaGreatDoorQbg
import Derived.Test.YthanangkmjjbaaaGreatDoorQbk
import Derived.Test.YthanangkmjjbaaaGreatDoorQbw
set_option linter.unusedSimpArgs false
set_option linter.unusedVariables false
/- The law HeightsAreInside, walked. -/
-- NEWM
namespace Go.Proofs.YthanangkmjjbaaaGreatDoor
open Go Go.RowKit
set_option maxRecDepth 100000
/- ## Plain: heights are evenly apart; tops rise, and end at the top -/
theorem hgtP_in {V : List Vec3} {Fs : List Fac3} {fr st : Int} (h : mshF V Fs = 0) (h1 : 1 ≤ fr ∧ fr ≤ 10000) (h2 : 1 ≤ st ∧ st ≤ 10000) : hgtP V Fs fr st = hgtR V Fs fr st := by
  have c1 : outH fr 1 10000 = false := by simp [outH]; omega
  have c2 : outH st 1 10000 = false := by simp [outH]; omega
  unfold hgtP
  rw [if_neg (by omega), c1, c2]
  rfl
theorem adpP_in {V : List Vec3} {Fs : List Fac3} {le mo off : Int} (h : mshF V Fs = 0) (h1 : 1 ≤ le ∧ le ≤ 10000) (h2 : le ≤ mo ∧ mo ≤ 10000) (h3 : 0 ≤ off ∧ off ≤ 10000) : adpP V Fs le mo off = adpR V Fs le mo off := by
  have c1 : outH le 1 10000 = false := by simp [outH]; omega
  have c2 : outH mo le 10000 = false := by simp [outH]; omega
  have c3 : outH off 0 10000 = false := by simp [outH]; omega
  unfold adpP
  rw [if_neg (by omega), c1, c2, c3]
  rfl
theorem hsL_at {lo hi fr st : Int} {k : Nat} (h : k < (hsL lo hi fr st).length) : (hsL lo hi fr st)[k]? = some (lo + fr + (k : Int) * st) := by
  rw [hsL_len] at h
  unfold hsL
  rw [List.getElem?_map, List.getElem?_range h]
  rfl
theorem tmod_mul (a b : Int) : (a * b).tmod b = 0 := Int.tmod_eq_zero_of_dvd (Int.dvd_mul_left a b)
/-- One top: how it lies behind the last one. -/
theorem top_step {V : List Vec3} {Fs : List Fac3} {le mo off hi at_ z : Int} {L : List Int} {k : Nat} (h1 : 1 ≤ le) (h2 : le ≤ mo) (h3 : 0 ≤ off) (hd : L.drop k = tops (stepA V Fs le mo off) hi at_) (hz : L[k]? = some z) :
    at_ < z ∧ z - at_ ≤ mo ∧ z ≤ hi ∧ L.drop (k + 1) = tops (stepA V Fs le mo off) hi z ∧ (k + 1 < L.length → (z - at_).tmod le = 0) := by
  have hT : ∀ z, 1 ≤ stepA V Fs le mo off z := fun z => by
    have := stepA_ge (V := V) (F := Fs) (least := le) (most := mo) (off := off) (z := z)
    omega
  have hk : k < L.length := (List.getElem?_eq_some_iff.1 hz).1
  have hz' : L[k] = z := (List.getElem?_eq_some_iff.1 hz).2
  rw [List.drop_eq_getElem_cons hk, hz'] at hd
  by_cases hlt : at_ < hi
  · rw [tops_step hT hlt] at hd
    injection hd with e1 e2
    have t1 := hT at_
    have t2 := stepA_le (V := V) (F := Fs) (z := at_) h1 h2 h3
    rw [← e1] at e2
    refine ⟨by omega, by omega, by omega, e2, fun hlen => ?_⟩
    have hne : L.drop (k + 1) ≠ [] := by
      intro e
      have := congrArg List.length e
      rw [List.length_drop, List.length_nil] at this
      omega
    have hzh : z < hi := by
      rcases Int.lt_or_le z hi with h | h
      · exact h
      · rw [e2, tops_end h] at hne; exact absurd rfl hne
    have : z - at_ = stepA V Fs le mo off at_ := by omega
    rw [this]
    unfold stepA
    rcases Int.le_total le (thkL (slL V Fs off mo) at_ mo / le * le) with h | h
    · rw [show max le (thkL (slL V Fs off mo) at_ mo / le * le) = thkL (slL V Fs off mo) at_ mo / le * le by omega]
      exact tmod_mul _ _
    · rw [show max le (thkL (slL V Fs off mo) at_ mo / le * le) = le by omega]
      exact Int.tmod_self
  · rw [tops_end (by omega)] at hd
    cases hd
theorem top_last {T : Int → Int} (hT : ∀ z, 1 ≤ T z) {hi at_ : Int} (h0 : at_ ≤ hi) (h : tops T hi at_ = []) : at_ = hi := by
  by_cases hlt : at_ < hi
  · rw [tops_step hT hlt] at h; cases h
  · omega
theorem lo_hi {V : List Vec3} {Fs : List Fac3} (h : MOk V Fs) : loZ V Fs ≤ hiZ V Fs := minL_le (maxL_mem (zs_ne h.ne))

/- ## The walk -/
set_option maxHeartbeats 8000000 in
theorem law_inside (v : Value) (zs : List Int) (hs : StrOk zs) : ACalls Tryz.prog 7 [.c (.r v (zs.map fun z => [I z]))] [] fun u H => u = .c (B true) := by
  refine acalls_of (N := 152) Tryz.func7 rfl rfl (by simp) fun E hE => ?_
  refine WA ?_
  refine WA ?_
  refine WR ?_
  refine al_ef rfl (ef_callm false (fun _ => rightmesh_v _ _ _ hs (by omega) (by omega)) rfl .fn rfl (by decide) (by kernel_rfl) rfl rfl (fun _g => .cons (.p rfl) .nil) (fun _g => .cons (.c rfl) (.cons (.c rfl) .nil)) (by simp)) ?_
  rintro F1 H1 ⟨_, _, _, _, ⟨a2, q, w, V, Fs, rfl, hq, ha3, ha4, hV, hFl, hmf⟩, hF, hH⟩
  injection hq with hq1 hq2; subst hq1; subst hq2
  (try simp only [nsl, Nat.reduceAdd, Nat.reduceLT, Nat.reduceSub] at hF); (try simp only [nsl, Nat.reduceAdd, Nat.reduceLT, Nat.reduceSub] at hH); subst hF; subst hH
  refine WE ?_
  have hM : MOk V Fs := mok_of hmf
  refine WR ?_
  refine al_ef rfl (ef_call0 false (fun _ => rboxof_v q w V Fs hM) rfl .fn rfl (by decide) (by kernel_rfl) rfl (fun _ => C0 rfl) (by simp)) ?_
  rintro _ _ ⟨_, _, _, ⟨⟨lx, ly, lz⟩, ⟨hx, hy, hz⟩, rfl, rfl, hlz, hhz⟩, hF, hH⟩
  (try simp only [nsl, Nat.reduceAdd, Nat.reduceLT, Nat.reduceSub] at hF); (try simp only [nsl, Nat.reduceAdd, Nat.reduceLT, Nat.reduceSub] at hH); subst hF; subst hH
  refine WE ?_
  simp only at hlz hhz
  have n1 := lo_near hM
  have n2 := hi_near hM
  have n3 := lo_hi hM
  rw [← hlz] at n1 n3
  rw [← hhz] at n2 n3
  refine WR ?_
  refine al_ef rfl (ef_callm false (fun _ => range_a 1 5 _ _ _ hs (by omega) (by omega) (by omega) (by omega) (by omega) (by omega)) rfl .fn rfl (by decide) (by kernel_rfl) rfl rfl (fun _g => .cons (.p rfl) (.cons (.c rfl) (.cons (.c rfl) .nil))) (fun _g => .cons (.c rfl) (.cons (.c rfl) .nil)) (by simp)) ?_
  rintro F1 H1 ⟨_, _, _, _, ⟨rr, ar, rfl, hq, hr3, hr4, hr1, hr2, _⟩, hF, hH⟩
  injection hq with hq1 hq2; subst hq1; subst hq2
  (try simp only [nsl, Nat.reduceAdd, Nat.reduceLT, Nat.reduceSub] at hF); (try simp only [nsl, Nat.reduceAdd, Nat.reduceLT, Nat.reduceSub] at hH); subst hF; subst hH
  have h64r : in64 rr := by simp only [in64]; omega
  obtain ⟨fr, hfr⟩ : ∃ o, o = rr := ⟨_, rfl⟩
  rw [← hfr]
  have hrfr : 1 ≤ fr ∧ fr ≤ 5 := ⟨by omega, by omega⟩
  clear hr1 hr2 h64r
  refine WO ?_
  refine al_ef rfl (ef_callm false (fun _ => range_a 1 5 _ _ _ hs (by omega) (by omega) (by omega) (by omega) (by omega) (by omega)) rfl .fn rfl (by decide) (by kernel_rfl) rfl rfl (fun _g => .cons (.p rfl) (.cons (.c rfl) (.cons (.c rfl) .nil))) (fun _g => .cons (.c rfl) (.cons (.c rfl) .nil)) (by simp)) ?_
  rintro F1 H1 ⟨_, _, _, _, ⟨rr, ar, rfl, hq, hr3, hr4, hr1, hr2, _⟩, hF, hH⟩
  injection hq with hq1 hq2; subst hq1; subst hq2
  (try simp only [nsl, Nat.reduceAdd, Nat.reduceLT, Nat.reduceSub] at hF); (try simp only [nsl, Nat.reduceAdd, Nat.reduceLT, Nat.reduceSub] at hH); subst hF; subst hH
  have h64r : in64 rr := by simp only [in64]; omega
  obtain ⟨st, hst⟩ : ∃ o, o = rr := ⟨_, rfl⟩
  rw [← hst]
  have hrst : 1 ≤ st ∧ st ≤ 5 := ⟨by omega, by omega⟩
  clear hr1 hr2 h64r
  refine WE ?_
  refine WR ?_
  refine al_ef rfl (ef_call0 false (fun _ => heights_p q w V Fs fr st (by omega) (by omega)) rfl .fn rfl (by decide) (by kernel_rfl) rfl (fun _ => C0 rfl) (by simp)) ?_
  rintro _ _ ⟨_, _, _, ⟨qh, rfl, rfl⟩, hF, hH⟩
  (try simp only [nsl, Nat.reduceAdd, Nat.reduceLT, Nat.reduceSub] at hF); (try simp only [nsl, Nat.reduceAdd, Nat.reduceLT, Nat.reduceSub] at hH); subst hF; subst hH
  refine WE ?_
  refine WR ?_
  refine al_ef rfl (ef_callm false (fun _ => range_a 1 3 _ _ _ hs (by omega) (by omega) (by omega) (by omega) (by omega) (by omega)) rfl .fn rfl (by decide) (by kernel_rfl) rfl rfl (fun _g => .cons (.p rfl) (.cons (.c rfl) (.cons (.c rfl) .nil))) (fun _g => .cons (.c rfl) (.cons (.c rfl) .nil)) (by simp)) ?_
  rintro F1 H1 ⟨_, _, _, _, ⟨rr, ar, rfl, hq, hr3, hr4, hr1, hr2, _⟩, hF, hH⟩
  injection hq with hq1 hq2; subst hq1; subst hq2
  (try simp only [nsl, Nat.reduceAdd, Nat.reduceLT, Nat.reduceSub] at hF); (try simp only [nsl, Nat.reduceAdd, Nat.reduceLT, Nat.reduceSub] at hH); subst hF; subst hH
  have h64r : in64 rr := by simp only [in64]; omega
  obtain ⟨le, hle⟩ : ∃ o, o = rr := ⟨_, rfl⟩
  rw [← hle]
  have hrle : 1 ≤ le ∧ le ≤ 3 := ⟨by omega, by omega⟩
  clear hr1 hr2 h64r
  refine WE ?_
  refine WR ?_
  refine al_ef rfl (ef_callm false (fun _ => range_a 0 6 _ _ _ hs (by omega) (by omega) (by omega) (by omega) (by omega) (by omega)) rfl .fn rfl (by decide) (by kernel_rfl) rfl rfl (fun _g => .cons (.p rfl) (.cons (.c rfl) (.cons (.c rfl) .nil))) (fun _g => .cons (.c rfl) (.cons (.c rfl) .nil)) (by simp)) ?_
  rintro F1 H1 ⟨_, _, _, _, ⟨rr, ar, rfl, hq, hr3, hr4, hr1, hr2, _⟩, hF, hH⟩
  injection hq with hq1 hq2; subst hq1; subst hq2
  (try simp only [nsl, Nat.reduceAdd, Nat.reduceLT, Nat.reduceSub] at hF); (try simp only [nsl, Nat.reduceAdd, Nat.reduceLT, Nat.reduceSub] at hH); subst hF; subst hH
  have h64r : in64 rr := by simp only [in64]; omega
  obtain ⟨dm, hdm⟩ : ∃ o, o = rr := ⟨_, rfl⟩
  rw [← hdm]
  have hrdm : 0 ≤ dm ∧ dm ≤ 6 := ⟨by omega, by omega⟩
  clear hr1 hr2 h64r
  refine WE ?_
  obtain ⟨mo, hmo⟩ : ∃ m, m = le + dm := ⟨_, rfl⟩
  rw [← hmo]
  refine ZZ ?_
  refine aw_regionT [(0, none), (1, none), (2, none), (3, none), (4, some [0, 1, 2]), (5, some []), (6, none), (7, none), (8, none), (9, none), (10, none)] hMixed (by kernel_rfl) ?_
  refine WP ?_
  refine at_ef rfl rfl (ef_callm false (fun _ => range_a 0 5 _ _ _ hs (by omega) (by omega) (by omega) (by omega) (by omega) (by omega)) rfl .fn rfl (by decide) (by kernel_rfl) rfl rfl (fun _g => .cons (.p rfl) (.cons (.c rfl) (.cons (.c rfl) .nil))) (fun _g => .cons (.c rfl) (.cons (.c rfl) .nil)) (by simp)) ?_
  rintro F1 H1 ⟨_, _, _, _, ⟨rr, ar, rfl, hq, hr3, hr4, hr1, hr2, _⟩, hF, hH⟩
  injection hq with hq1 hq2; subst hq1; subst hq2
  (try simp only [nsl, Nat.reduceAdd, Nat.reduceLT, Nat.reduceSub] at hF); (try simp only [nsl, Nat.reduceAdd, Nat.reduceLT, Nat.reduceSub] at hH); subst hF; subst hH
  have h64r : in64 rr := by simp only [in64]; omega
  obtain ⟨off, hoff⟩ : ∃ o, o = rr := ⟨_, rfl⟩
  rw [← hoff]
  have hroff : 0 ≤ off ∧ off ≤ 5 := ⟨by omega, by omega⟩
  clear hr1 hr2 h64r
  refine ⟨ag_cons (by first | exact ag_rd rfl rfl rfl (ZK (KK (t := 29) rfl)) rfl) (ag_cons (by first | exact ag_rd rfl rfl rfl (rd_move rfl rfl) rfl) (ag_cons (by first | exact ag_rd rfl rfl rfl (rd_move rfl rfl) rfl) (ag_none))), ?_⟩
  refine at_ef rfl rfl (ef_call0 false (fun _ => adaptive_p q w V Fs le mo off (by omega) (by omega)) rfl .fn rfl (by decide) (by kernel_rfl) rfl (fun _ => C0 rfl) (by simp)) ?_
  rintro _ _ ⟨_, _, _, ⟨qa, rfl, rfl⟩, hF, hH⟩
  (try simp only [nsl, Nat.reduceAdd, Nat.reduceLT, Nat.reduceSub] at hF); (try simp only [nsl, Nat.reduceAdd, Nat.reduceLT, Nat.reduceSub] at hH); subst hF; subst hH
  refine ⟨ag_none, ?_⟩
  refine WQ ?_
  have eh : hgtP V Fs fr st = if 1000 < hsN lz hz fr st then ([], 2) else (hsL lz hz fr st, 0) := by rw [hgtP_in hmf (by omega) (by omega), hgtR, hlz, hhz]
  have ea : adpP V Fs le mo off = if 1000 < (tops (stepA V Fs le mo off) hz lz).length then ([], 2) else (tops (stepA V Fs le mo off) hz lz, 0) := by rw [adpP_in hmf (by omega) (by omega) (by omega), adpR, adL, hlz, hhz]
  generalize hgtP V Fs fr st = hp at eh ⊢
  generalize adpP V Fs le mo off = ap at ea ⊢
  obtain ⟨hl, he⟩ := hp
  obtain ⟨al, ae⟩ := ap
  refine aw_wk (wk_of (K := fun F H => F = [(5, .p 0 0 0), (6, .p 1 0 0), (7, .c (I fr)), (8, .c (I st)), (9, .c (.r qh (zR hl))), (10, .c (I he)), (11, .c (I le)), (12, .c (I mo)), (13, .c (.r qa (zR al))), (14, .c (I ae))] ∧ H = [vBox lx ly lz, vBox hx hy hz]) [some 2, some 3] (fun _ => [(5, .p 0 0 0), (6, .p 1 0 0), (7, .c (I fr)), (8, .c (I st)), (9, .c (.r qh (zR hl))), (10, .c (I he)), (11, .c (I le)), (12, .c (I mo)), (13, .c (.r qa (zR al))), (14, .c (I ae))]) (fun _ => [vBox lx ly lz, vBox hx hy hz]) (by decide) (ZNL hE) ZCF ZCH (fun _ => ⟨rfl, rfl⟩)) ?_
  rintro F H ⟨rfl, rfl⟩
  refine WA ?_
  refine aw_cut (fun F H => F = [(5, .p 0 0 0), (6, .p 1 0 0), (7, .c (I fr)), (8, .c (I st)), (9, .c (.r qh (zR hl))), (10, .c (I he)), (11, .c (I le)), (12, .c (I mo)), (13, .c (.r qa (zR al))), (14, .c (I ae))] ∧ H = [vBox lx ly lz, vBox hx hy hz]) ?_ ?_ wk_aw
  · refine aw_if rfl (fun h0 => ?_) (fun h0 => ?_)
    · have hN : ¬ 1000 < hsN lz hz fr st := fun h => by
        rw [if_pos h] at eh; injection eh with e1 e2; omega
      rw [if_neg hN] at eh
      injection eh with e1 e2
      subst e1; subst e2
      have hat := fun k h => hsL_at (lo := lz) (hi := hz) (fr := fr) (st := st) (k := k) h
      have hmo2 := fun k => hs_more (lo := lz) (hi := hz) (first := fr) (step := st) hrst.1 k
      have hll := hsL_len lz hz fr st
      generalize hsL lz hz fr st = L at hat hll ⊢
      have e3 : (zR L).length = L.length := by simp
      refine WA ?_
      refine aw_loopw (fun m F H => ∃ (k : Nat), m + k = L.length ∧ F = [(5, .p 0 0 0), (6, .p 1 0 0), (7, .c (I fr)), (8, .c (I st)), (9, .c (.r qh (zR L))), (10, .c (I 0)), (11, .c (I le)), (12, .c (I mo)), (13, .c (.r qa (zR al))), (14, .c (I ae)), (58, .c (.r qh (zR L))), (59, .c (I (zR L).length)), (60, .c (I k))] ∧ H = [vBox lx ly lz, vBox hx hy hz]) ?_ ?_
      · refine wk_of [some 0, some 1] (fun _ => [(5, .p 0 0 0), (6, .p 1 0 0), (7, .c (I fr)), (8, .c (I st)), (9, .c (.r qh (zR L))), (10, .c (I 0)), (11, .c (I le)), (12, .c (I mo)), (13, .c (.r qa (zR al))), (14, .c (I ae)), (58, .c (.r qh (zR L))), (59, .c (I (zR L).length)), (60, .c (I (0 : Nat)))]) (fun _ => [vBox lx ly lz, vBox hx hy hz]) (by decide) (ZNL hE) ZCF ZCH (fun _ => ?_)
        exact ⟨L.length, 0, by omega, rfl, rfl⟩
      · rintro m F H ⟨k, hk, rfl, rfl⟩
        refine WA ?_
        refine aw_if rfl (fun hlt => ?_) (fun hge => ?_)
        · have hk1 : k < L.length := by omega
          have hrow : (zR L)[k]? = some [I (lz + fr + (k : Int) * st)] := by rw [List.getElem?_map, hat k hk1]; rfl
          have hp1 := (hmo2 k).2 (by omega)
          have hp2 : 0 ≤ (k : Int) * st := Int.mul_nonneg (by omega) (by omega)
          have hp3 : (k : Int) * st ≤ 1000 * 5 := Int.mul_le_mul (by omega) (by omega) (by omega) (by omega)
          refine WA ?_
          refine WA ?_
          refine aw_cond_f rfl ?_
          refine ZZ ?_
          refine WA ?_
          refine wk_of [some 0, some 1] (fun _ => [(5, .p 0 0 0), (6, .p 1 0 0), (7, .c (I fr)), (8, .c (I st)), (9, .c (.r qh (zR L))), (10, .c (I 0)), (11, .c (I le)), (12, .c (I mo)), (13, .c (.r qa (zR al))), (14, .c (I ae)), (58, .c (.r qh (zR L))), (59, .c (I (zR L).length)), (60, .c (I (k + 1 : Nat)))]) (fun _ => [vBox lx ly lz, vBox hx hy hz]) (by decide) (ZNL hE) ZCF ZCH (fun _ => ?_)
          exact ⟨m - 1, by omega, k + 1, by omega, rfl, rfl⟩
        · have hp1 : ¬ lz + fr + ((zR L).length : Int) * st < hz := by
            rw [e3, hll]
            exact fun h => Nat.lt_irrefl _ ((hmo2 _).1 h)
          have hp2 : 0 ≤ ((zR L).length : Int) * st := Int.mul_nonneg (by omega) (by omega)
          have hp3 : ((zR L).length : Int) * st ≤ 1000 * 5 := Int.mul_le_mul (by omega) (by omega) (by omega) (by omega)
          refine ZZ ?_
          refine WA ?_
          refine aw_cond_f rfl ?_
          refine ZZ ?_
          refine wk_of [some 0, some 1] (fun _ => [(5, .p 0 0 0), (6, .p 1 0 0), (7, .c (I fr)), (8, .c (I st)), (9, .c (.r qh (zR L))), (10, .c (I 0)), (11, .c (I le)), (12, .c (I mo)), (13, .c (.r qa (zR al))), (14, .c (I ae))]) (fun _ => [vBox lx ly lz, vBox hx hy hz]) (by decide) (ZNL hE) ZCF ZCH (fun _ => ⟨rfl, rfl⟩)
    · have hN : 1000 < hsN lz hz fr st := by
        rcases Nat.lt_or_ge 1000 (hsN lz hz fr st) with h | h
        · exact h
        · rw [if_neg (by omega)] at eh; injection eh with e1 e2; omega
      rw [if_pos hN] at eh
      injection eh with e1 e2
      subst e1; subst e2
      refine WA ?_
      refine aw_cond_f rfl ?_
      refine ZZ ?_
      refine wk_of [some 0, some 1] (fun _ => [(5, .p 0 0 0), (6, .p 1 0 0), (7, .c (I fr)), (8, .c (I st)), (9, .c (.r qh (zR []))), (10, .c (I 2)), (11, .c (I le)), (12, .c (I mo)), (13, .c (.r qa (zR al))), (14, .c (I ae))]) (fun _ => [vBox lx ly lz, vBox hx hy hz]) (by decide) (ZNL hE) ZCF ZCH (fun _ => ⟨rfl, rfl⟩)
  rintro F H ⟨rfl, rfl⟩
  refine WA ?_
  refine aw_if rfl (fun h0 => ?_) (fun h0 => ?_)
  · have hN : 1000 < (tops (stepA V Fs le mo off) hz lz).length := by
      rcases Nat.lt_or_ge 1000 (tops (stepA V Fs le mo off) hz lz).length with h | h
      · exact h
      · rw [if_neg (by omega)] at ea; injection ea with e1 e2; exact absurd e2 h0
    rw [if_pos hN] at ea
    injection ea with e1 e2
    subst e1; subst e2
    refine WR ?_
    first | refine ZS ?_ | (refine G1 rfl ?_; refine al_ef rfl (ef_call0 false (fun _ => ready_a) rfl .fn rfl (by decide) (by kernel_rfl) rfl (fun _ => C0 rfl) (by simp)) ?_; rintro _ _ ⟨_, _, _, ⟨rfl, rfl⟩, hF, hH⟩; (try simp only [nsl, Nat.reduceAdd, Nat.reduceLT, Nat.reduceSub] at hF); (try simp only [nsl, Nat.reduceAdd, Nat.reduceLT, Nat.reduceSub] at hH); subst hF; subst hH) | skip
    refine WE ?_
    exact aret_1 [] [] rfl rfl rfl (by decide) (ZNK rfl) (fun _ => .nil) rfl
  have h0' : ae = 0 := by omega
  have hN : ¬ 1000 < (tops (stepA V Fs le mo off) hz lz).length := fun h => by
    rw [if_pos h] at ea; injection ea with e1 e2; omega
  rw [if_neg hN] at ea
  injection ea with e1 e2
  subst e1; subst e2
  have hT : ∀ z, 1 ≤ stepA V Fs le mo off z := fun z => by
    have := stepA_ge (V := V) (F := Fs) (least := le) (most := mo) (off := off) (z := z)
    omega
  have hst := fun k at_ z (hd : (tops (stepA V Fs le mo off) hz lz).drop k = tops (stepA V Fs le mo off) hz at_) hz' => top_step (V := V) (Fs := Fs) (le := le) (mo := mo) (off := off) (hi := hz) (at_ := at_) (z := z) (k := k) hrle.1 (by omega) hroff.1 hd hz'
  have hd0 : (tops (stepA V Fs le mo off) hz lz).drop 0 = tops (stepA V Fs le mo off) hz lz := rfl
  generalize hA : tops (stepA V Fs le mo off) hz lz = A at hst hN ⊢
  rw [hA] at hd0
  have e3 : (zR A).length = A.length := by simp
  have e3' : (A.map fun z => [I z]).length = A.length := by simp
  refine ZZ ?_
  refine WA ?_
  refine WA ?_
  refine aw_loopw (fun m F H => ∃ (k : Nat) (at_ : Int), m + k = A.length ∧ A.drop k = tops (stepA V Fs le mo off) hz at_ ∧ lz ≤ at_ ∧ at_ ≤ hz ∧ F = [(6, .p 1 0 0), (11, .c (I le)), (12, .c (I mo)), (13, .c (.r qa (zR A))), (17, .c (I at_)), (105, .c (.r qa (zR A))), (106, .c (I (zR A).length)), (107, .c (I k))] ∧ H = [vBox lx ly lz, vBox hx hy hz]) ?_ ?_
  · refine wk_of [some 0, some 1] (fun _ => [(6, .p 1 0 0), (11, .c (I le)), (12, .c (I mo)), (13, .c (.r qa (zR A))), (17, .c (I lz)), (105, .c (.r qa (zR A))), (106, .c (I (zR A).length)), (107, .c (I (0 : Nat)))]) (fun _ => [vBox lx ly lz, vBox hx hy hz]) (by decide) (ZNL hE) ZCF ZCH (fun _ => ?_)
    exact ⟨A.length, 0, lz, by omega, by rw [List.drop_zero, hA], by omega, by omega, rfl, rfl⟩
  rintro m F H ⟨k, at_, hk, hd, ha1, ha2, rfl, rfl⟩
  refine WA ?_
  refine aw_if rfl (fun hlt => ?_) (fun hge => ?_)
  · obtain ⟨z, hz1⟩ : ∃ z, A[k]? = some z := ⟨_, List.getElem?_eq_getElem (by omega)⟩
    have hrow : (zR A)[k]? = some [I z] := by rw [List.getElem?_map, hz1]; rfl
    obtain ⟨t1, t2, t3, t4, t5⟩ := hst k at_ z hd hz1
    by_cases hkl : k + 1 < A.length
    · have t6 := t5 hkl
      have t7 : (z - at_) % le = 0 := by rw [← Int.tmod_eq_emod_of_nonneg (by omega)]; exact t6
      refine WA ?_
      refine WA ?_
      refine aw_cond_f rfl ?_
      refine ZZ ?_
      refine WA ?_
      refine WA ?_
      refine wk_of [some 0, some 1] (fun _ => [(6, .p 1 0 0), (11, .c (I le)), (12, .c (I mo)), (13, .c (.r qa (zR A))), (17, .c (I z)), (105, .c (.r qa (zR A))), (106, .c (I (zR A).length)), (107, .c (I (k + 1 : Nat)))]) (fun _ => [vBox lx ly lz, vBox hx hy hz]) (by decide) (ZNL hE) ZCF ZCH (fun _ => ?_)
      exact ⟨m - 1, by omega, k + 1, z, by omega, t4, by omega, t3, rfl, rfl⟩
    · refine WA ?_
      refine WA ?_
      refine aw_cond_f rfl ?_
      refine ZZ ?_
      refine WA ?_
      refine WA ?_
      refine wk_of [some 0, some 1] (fun _ => [(6, .p 1 0 0), (11, .c (I le)), (12, .c (I mo)), (13, .c (.r qa (zR A))), (17, .c (I z)), (105, .c (.r qa (zR A))), (106, .c (I (zR A).length)), (107, .c (I (k + 1 : Nat)))]) (fun _ => [vBox lx ly lz, vBox hx hy hz]) (by decide) (ZNL hE) ZCF ZCH (fun _ => ?_)
      exact ⟨m - 1, by omega, k + 1, z, by omega, t4, by omega, t3, rfl, rfl⟩
  have hl : at_ = hz := top_last hT ha2 (by rw [← hd]; exact List.drop_eq_nil_of_le (by omega))
  refine ZZ ?_
  refine WR ?_
  first | refine ZS ?_ | (refine G1 rfl ?_; refine al_ef rfl (ef_call0 false (fun _ => ready_a) rfl .fn rfl (by decide) (by kernel_rfl) rfl (fun _ => C0 rfl) (by simp)) ?_; rintro _ _ ⟨_, _, _, ⟨rfl, rfl⟩, hF, hH⟩; (try simp only [nsl, Nat.reduceAdd, Nat.reduceLT, Nat.reduceSub] at hF); (try simp only [nsl, Nat.reduceAdd, Nat.reduceLT, Nat.reduceSub] at hH); subst hF; subst hH) | skip
  refine WE ?_
  exact aret_1 [] [] rfl rfl rfl (by decide) (ZNK rfl) (fun _ => .nil) rfl
end Go.Proofs.YthanangkmjjbaaaGreatDoor
