/- A pyramid's surface, by value: its arrays are new. -/
import Derived.Test.YthanangkmjjbaaaGreatDoorQaz
set_option linter.unusedSimpArgs false
set_option linter.unusedVariables false
/- Heights: the program's and the reference's, by value. -/
-- NEWM
namespace Go.Proofs.YthanangkmjjbaaaGreatDoor
open Go Go.RowKit
set_option maxRecDepth 100000
def outH (n lo hi : Int) : Bool := decide (n < lo) || decide (hi < n)
def spnF (n lo hi : Int) : Int := if outH n lo hi = true then 1 else 0
theorem span_v (n lo hi : Int) : ACalls Tryz.prog 63 [.c (I n), .c (I lo), .c (I hi)] [] fun u H => u = .c (I (spnF n lo hi)) ∧ H = [] := by
  refine acalls_of (N := 12) Tryz.func63 rfl rfl (by simp) fun E hE => ?_
  refine WA ?_
  refine WR ?_
  refine al_ef rfl (ef_call0 false (fun _ => rin_v _ _ _) rfl .fn rfl (by decide) (by kernel_rfl) rfl (fun _g => .cons (.c rfl) (.cons (.c rfl) (.cons (.c rfl) .nil))) (by simp)) ?_
  rintro _ _ ⟨_, _, _, ⟨rfl, rfl⟩, hF, hH⟩
  (try simp only [nsl, Nat.reduceAdd, Nat.reduceLT, Nat.reduceSub] at hF); (try simp only [nsl, Nat.reduceAdd, Nat.reduceLT, Nat.reduceSub] at hH); subst hF; subst hH
  refine WE ?_
  refine aw_cond rfl (fun hb => ?_) (fun hb => ?_)
  · refine WA ?_
    exact aret_1 [] _ rfl rfl rfl (by decide) (ZNK rfl) (fun _ => .nil) ⟨by rw [spnF, if_pos (by simpa [outH] using hb)], rfl⟩
  · refine WA ?_
    exact aret_1 [] _ rfl rfl rfl (by decide) (ZNK rfl) (fun _ => .nil) ⟨by rw [spnF, if_neg (by simpa [outH] using hb)], rfl⟩
def hfF : List Int → Int
  | [] => 0
  | n :: l => if spnF n 1 10000 = 0 then hfF l else spnF n 1 10000
theorem hfF_drop {l : List Int} {k : Nat} {n : Int} (h : l[k]? = some n) : hfF (l.drop k) = if spnF n 1 10000 = 0 then hfF (l.drop (k + 1)) else spnF n 1 10000 := by
  obtain ⟨h1, h2⟩ := List.getElem?_eq_some_iff.1 h
  rw [List.drop_eq_getElem_cons h1, h2]; rfl
theorem isheight_v (n : Int) (b : Bool) (h : outH n 1 10000 = b) : ACalls Tryz.prog 78 [.c (I n)] [] fun u H => u = .c (B (!b)) ∧ H = [] := by
  subst h
  refine acalls_of (N := 6) Tryz.func78 rfl rfl (by simp) fun E hE => ?_
  repeat' (first
    | (with_reducible refine aw_seq ?_) | (with_reducible refine aseq_n ?_) | (with_reducible refine aseq_r ?_) | (with_reducible refine ablk_n ?_) | (with_reducible refine ablk_r ?_) | (with_reducible refine ablk_e ?_) | (with_reducible refine ablk_o rfl ?_) | (with_reducible refine aseq_e ?_) | (with_reducible refine aw_skip ?_) | (with_reducible refine aw_block ?_) | (with_reducible refine aw_ret ?_) | (with_reducible refine aw_exit ?_)
    | refine aw_cond_t rfl ?_ | refine aw_cond_f rfl ?_ | refine aw_if_t rfl (by assumption) ?_ | refine aw_if_f rfl (by assumption) ?_ | refine aw_if rfl (fun _ => ?_) (fun _ => ?_) | refine aw_cond rfl (fun _ => ?_) (fun _ => ?_)
    | (refine aw_region (id := 1) ?_
       refine WO ?_
       refine al_ef rfl (ef_call0 false (fun _ => outside_v _ _ _) rfl .fn rfl (by decide) (by kernel_rfl) rfl (fun _g => .cons (.c rfl) (.cons (.c rfl) (.cons (.c rfl) .nil))) (by simp)) ?_
       rintro _ _ ⟨_, _, _, ⟨rfl, rfl⟩, hF, hH⟩
       (try simp only [nsl, Nat.reduceAdd, Nat.reduceLT, Nat.reduceSub] at hF); (try simp only [nsl, Nat.reduceAdd, Nat.reduceLT, Nat.reduceSub] at hH); subst hF; subst hH
       refine WE ?_)
    | (refine aw_region ?_; refine WE ?_))
  exact aret_1 [] _ rfl rfl rfl (by decide) (ZNK rfl) (fun _ => .nil) ⟨rfl, rfl⟩
/-- What Heights gives: the heights, the error. -/
def hgtR (V : List Vec3) (Fs : List Fac3) (first step : Int) : List Int × Int :=
  if 1000 < hsN (loZ V Fs) (hiZ V Fs) first step then ([], 2) else (hsL (loZ V Fs) (hiZ V Fs) first step, 0)
def hgtP (V : List Vec3) (Fs : List Fac3) (first step : Int) : List Int × Int :=
  if mshF V Fs ≠ 0 then ([], mshF V Fs) else if (outH first 1 10000 || outH step 1 10000) = true then ([], 1) else hgtR V Fs first step
set_option maxHeartbeats 4000000 in
theorem heights_p (v w : Value) (V : List Vec3) (Fs : List Fac3) (first step : Int) (hVl : V.length ≤ 1000000) (hFl : Fs.length ≤ 1000000) : ACalls Tryz.prog 30 [mshA v w V Fs, .c (I first), .c (I step)] [] fun u H => ∃ q, u = .t [.c (.r q (zR (hgtP V Fs first step).1)), .c (I (hgtP V Fs first step).2)] ∧ H = [] := by
  refine acalls_of (N := 50) Tryz.func30 rfl rfl (by simp) fun E hE => ?_
  refine WA ?_
  refine WR ?_
  refine al_ef rfl (ef_call0 false (fun _ => checkmesh_v v w V Fs (by omega) (by omega)) rfl .fn rfl (by decide) (by kernel_rfl) rfl (fun _ => C0 rfl) (by simp)) ?_
  rintro _ _ ⟨_, _, _, ⟨rfl, rfl⟩, hF, hH⟩
  (try simp only [nsl, Nat.reduceAdd, Nat.reduceLT, Nat.reduceSub] at hF); (try simp only [nsl, Nat.reduceAdd, Nat.reduceLT, Nat.reduceSub] at hH); subst hF; subst hH
  refine WE ?_
  refine WA ?_
  refine aw_if rfl (fun hv => ?_) (fun hv => ?_)
  · refine WA ?_
    exact aret_2 [] _ rfl rfl rfl rfl rfl (by decide) (ZNK rfl) (fun _ => .nil) ⟨_, by rw [hgtP, if_pos hv]; rfl, rfl⟩
  refine ZZ ?_
  have hM : MOk V Fs := mok_of (by omega)
  have e0 : hgtP V Fs first step = if (outH first 1 10000 || outH step 1 10000) = true then ([], 1) else hgtR V Fs first step := by rw [hgtP, if_neg hv]
  cases h1 : outH first 1 10000 with
  | true =>
    refine WR ?_
    refine al_ef rfl (ef_call0 false (fun _ => isheight_v first true h1) rfl .fn rfl (by decide) (by kernel_rfl) rfl (fun _g => .cons (.c rfl) .nil) (by simp)) ?_
    rintro _ _ ⟨_, _, _, ⟨rfl, rfl⟩, hF, hH⟩
    (try simp only [nsl, Nat.reduceAdd, Nat.reduceLT, Nat.reduceSub] at hF); (try simp only [nsl, Nat.reduceAdd, Nat.reduceLT, Nat.reduceSub] at hH); subst hF; subst hH
    refine WE ?_
    refine aw_cond_t rfl ?_
    refine WA ?_
    exact aret_2 [] _ rfl rfl rfl rfl rfl (by decide) (ZNK rfl) (fun _ => .nil) ⟨_, by rw [e0, h1]; rfl, rfl⟩
  | false =>
    cases h2 : outH step 1 10000 with
    | true =>
      refine WR ?_
      refine al_ef rfl (ef_call0 false (fun _ => isheight_v first false h1) rfl .fn rfl (by decide) (by kernel_rfl) rfl (fun _g => .cons (.c rfl) .nil) (by simp)) ?_
      rintro _ _ ⟨_, _, _, ⟨rfl, rfl⟩, hF, hH⟩
      (try simp only [nsl, Nat.reduceAdd, Nat.reduceLT, Nat.reduceSub] at hF); (try simp only [nsl, Nat.reduceAdd, Nat.reduceLT, Nat.reduceSub] at hH); subst hF; subst hH
      refine WO ?_
      refine G1 rfl ?_
      refine al_ef rfl (ef_call0 false (fun _ => isheight_v step true h2) rfl .fn rfl (by decide) (by kernel_rfl) rfl (fun _g => .cons (.c rfl) .nil) (by simp)) ?_
      rintro _ _ ⟨_, _, _, ⟨rfl, rfl⟩, hF, hH⟩
      (try simp only [nsl, Nat.reduceAdd, Nat.reduceLT, Nat.reduceSub] at hF); (try simp only [nsl, Nat.reduceAdd, Nat.reduceLT, Nat.reduceSub] at hH); subst hF; subst hH
      refine WE ?_
      refine aw_cond_t rfl ?_
      refine WA ?_
      exact aret_2 [] _ rfl rfl rfl rfl rfl (by decide) (ZNK rfl) (fun _ => .nil) ⟨_, by rw [e0, h1, h2]; rfl, rfl⟩
    | false =>
      refine WR ?_
      refine al_ef rfl (ef_call0 false (fun _ => isheight_v first false h1) rfl .fn rfl (by decide) (by kernel_rfl) rfl (fun _g => .cons (.c rfl) .nil) (by simp)) ?_
      rintro _ _ ⟨_, _, _, ⟨rfl, rfl⟩, hF, hH⟩
      (try simp only [nsl, Nat.reduceAdd, Nat.reduceLT, Nat.reduceSub] at hF); (try simp only [nsl, Nat.reduceAdd, Nat.reduceLT, Nat.reduceSub] at hH); subst hF; subst hH
      refine WO ?_
      refine G1 rfl ?_
      refine al_ef rfl (ef_call0 false (fun _ => isheight_v step false h2) rfl .fn rfl (by decide) (by kernel_rfl) rfl (fun _g => .cons (.c rfl) .nil) (by simp)) ?_
      rintro _ _ ⟨_, _, _, ⟨rfl, rfl⟩, hF, hH⟩
      (try simp only [nsl, Nat.reduceAdd, Nat.reduceLT, Nat.reduceSub] at hF); (try simp only [nsl, Nat.reduceAdd, Nat.reduceLT, Nat.reduceSub] at hH); subst hF; subst hH
      refine WE ?_
      refine aw_cond_f rfl ?_
      refine ZZ ?_
      rw [h1, h2] at e0
      simp only [outH, Bool.or_eq_false_iff, decide_eq_false_iff_not] at h1 h2
      have n1 := lo_near hM
      have n2 := hi_near hM
      refine WR ?_
      refine al_ef rfl (ef_call0 false (fun _ => boxof_v v w V Fs hM) rfl .fn rfl (by decide) (by kernel_rfl) rfl (fun _ => C0 rfl) (by simp)) ?_
      rintro _ _ ⟨_, _, _, ⟨⟨lx, ly, lz⟩, ⟨hx, hy, hz⟩, rfl, rfl, rfl, rfl⟩, hF, hH⟩
      (try simp only [nsl, Nat.reduceAdd, Nat.reduceLT, Nat.reduceSub] at hF); (try simp only [nsl, Nat.reduceAdd, Nat.reduceLT, Nat.reduceSub] at hH); subst hF; subst hH
      refine WE ?_
      refine WA ?_
      refine WA ?_
      have hN := hsN_le (lo := loZ V Fs) (hi := hiZ V Fs) (first := first) (step := step) (by omega) (by omega) n1.1 n2.2
      have hmore := fun k => hs_more (lo := loZ V Fs) (hi := hiZ V Fs) (first := first) (step := step) (by omega) k
      have htake := fun k => hs_take (lo := loZ V Fs) (hi := hiZ V Fs) (first := first) (step := step) k
      have hlen := hsL_len (loZ V Fs) (hiZ V Fs) first step
      have hall := fun k => hs_all (lo := loZ V Fs) (hi := hiZ V Fs) (first := first) (step := step) (k := k)
      have e5 : hgtR V Fs first step = if 1000 < hsN (loZ V Fs) (hiZ V Fs) first step then ([], 2) else (hsL (loZ V Fs) (hiZ V Fs) first step, 0) := rfl
      generalize hL : hsL (loZ V Fs) (hiZ V Fs) first step = L at htake hlen hall e5
      generalize hNN : hsN (loZ V Fs) (hiZ V Fs) first step = n at hN hmore htake hlen hall e5
      generalize loZ V Fs = lo at n1 hmore htake ⊢
      generalize hiZ V Fs = hi at n2 hmore ⊢
      refine aw_loopw (fun m F H => ∃ (k c : Nat) (z : Int), m + k = n ∧ z = lo + first + (k : Int) * step ∧ F = [(2, .c (I step)), (9, .p 0 0 0), (10, .p 1 0 0), (11, .o 2 0 (L.take k).length c), (12, .c (I z))] ∧ H = [vBox lx ly lo, vBox hx hy hi, .arr 3 1 c (zR (L.take k))]) ?_ ?_
      · refine wk_of [some 1, some 2, none] (fun _ => [(2, .c (I step)), (9, .p 0 0 0), (10, .p 1 0 0), (11, .o 2 0 0 0), (12, .c (I (lo + first)))]) (fun _ => [vBox lx ly lo, vBox hx hy hi, .arr 3 1 0 []]) (by decide) (ZNL hE) ZCF ZCH (fun _ => ?_)
        exact ⟨n, 0, 0, lo + first, by omega, by simp, by simp, by simp⟩
      rintro m F H ⟨k, c, z, hk, hz, rfl, rfl⟩
      have hmk := hmore k
      rw [← hz] at hmk
      have hzz : z < hi → z ≤ 100000 ∧ z + step ≤ 110000 := fun h => by omega
      have hz0 : 0 ≤ (k : Int) * step := Int.mul_nonneg (by omega) (by omega)
      have hkl : (L.take k).length = k := by rw [List.length_take, hlen]; omega
      refine WA ?_
      refine aw_if rfl (fun hlt => ?_) (fun hge => ?_)
      · have hkn : k < n := hmk.1 hlt
        have ht := htake k hkn
        rw [← hz] at ht
        generalize hT : L.take k = T at ht hkl ⊢
        refine WR ?_
        refine al_ef rfl (Zapp (KA (t := 22) rfl)) ?_
        rintro _ _ ⟨_, cc, hcc, rfl, rfl⟩
        refine WE ?_
        refine WA ?_
        refine wk_of [some 0, some 1, some 2] (fun _ => [(2, .c (I step)), (9, .p 0 0 0), (10, .p 1 0 0), (11, .o 2 0 (T ++ [z]).length cc), (12, .c (I (z + step)))]) (fun _ => _) (by decide) (ZNL hE) ZCF ZCH (fun _ => ?_)
        refine ⟨m - 1, by omega, k + 1, cc, z + step, by omega, ?_, by rw [ht], ?_⟩
        · rw [hz, show ((k + 1 : Nat) : Int) = (k : Int) + 1 by omega, Int.add_mul]; omega
        · rw [ht]; simp [zR]
      obtain rfl : k = n := by
        have : ¬ k < n := fun h => hge (hmk.2 h)
        omega
      have ha := hall k (Nat.le_refl _)
      rw [ha] at hkl ⊢
      refine ZZ ?_
      refine WA ?_
      refine aw_if rfl (fun hb => ?_) (fun hb => ?_)
      · refine WA ?_
        exact aret_2 [] _ rfl rfl rfl rfl rfl (by decide) (ZNK rfl) (fun _ => .nil) ⟨_, by rw [e0, if_neg (by simp), e5, if_pos (by omega)]; rfl, rfl⟩
      · refine WA ?_
        exact aret_f2 [] _ rfl rfl rfl rfl rfl rfl (by rw [List.drop_zero, List.take_of_length_le (by simp)]) (by simp) rfl (by decide) (ZNK rfl) (fun _ => .nil) (fun q => ⟨q, by rw [e0, if_neg (by simp), e5, if_neg (by omega)], rfl⟩)
end Go.Proofs.YthanangkmjjbaaaGreatDoor

/- Heights and places of the stream, by value. -/
-- NEWM
namespace Go.Proofs.YthanangkmjjbaaaGreatDoor
open Go Go.RowKit
set_option maxRecDepth 100000
theorem avec_v (v : Value) (zs : List Int) (a : Int) (hs : StrOk zs) (h0 : 0 ≤ a) (h1 : a ≤ 800000000) : ACalls Tryz.prog 107 [.p 0 0 0] [strm v zs a] fun u H => ∃ (p : Vec3) (a' : Int), u = .a (p.row.map .c) ∧ H = [strm v zs a'] ∧ a ≤ a' ∧ a' ≤ a + 10 ∧ in64 p.x ∧ in64 p.y ∧ in64 p.z := by
  refine acalls_of (N := 20) Tryz.func107 rfl rfl (by simp) fun E hE => ?_
  refine WA ?_
  refine WR ?_
  refine al_ef rfl (ef_callm true (fun _ => pick_a [0, 1, 3, -5, 100] _ _ _ _ hs (by omega) (by omega) (by simp) (by simp)) rfl .fn rfl (by decide) (by kernel_rfl) rfl rfl (fun _g => .cons (.p rfl) (.cons (.frz rfl rfl rfl rfl rfl) .nil)) (fun _g => .cons (.c rfl) (.cons (.c rfl) .nil)) (fun _ _ _ _ ⟨_, hu, hH, _⟩ => by rw [hu, hH]; exact ⟨.c (.inl trivial), strm_flat (.inr ⟨0, _, rfl, by simp⟩)⟩)) ?_
  rintro F1 H1 ⟨_, _, _, _, ⟨rr, rfl, hq, hrm⟩, hF, hH⟩
  injection hq with hq1 hq2; subst hq1; subst hq2
  (try simp only [nsl, Nat.reduceAdd, Nat.reduceLT, Nat.reduceSub] at hF); (try simp only [nsl, Nat.reduceAdd, Nat.reduceLT, Nat.reduceSub] at hH); subst hF; subst hH
  have h64r : in64 rr := by simp only [List.mem_cons, List.not_mem_nil, or_false] at hrm; simp only [in64] at *; omega
  clear hrm
  refine WO ?_
  refine al_ef rfl (ef_callm true (fun _ => pick_a [0, 2, -7, 50] _ _ _ _ hs (by omega) (by omega) (by simp) (by simp)) rfl .fn rfl (by decide) (by kernel_rfl) rfl rfl (fun _g => .cons (.p rfl) (.cons (.frz rfl rfl rfl rfl rfl) .nil)) (fun _g => .cons (.c rfl) (.cons (.c rfl) .nil)) (fun _ _ _ _ ⟨_, hu, hH, _⟩ => by rw [hu, hH]; exact ⟨.c (.inl trivial), strm_flat (.inr ⟨0, _, rfl, by simp⟩)⟩)) ?_
  rintro F1 H1 ⟨_, _, _, _, ⟨rr, rfl, hq, hrm⟩, hF, hH⟩
  injection hq with hq1 hq2; subst hq1; subst hq2
  (try simp only [nsl, Nat.reduceAdd, Nat.reduceLT, Nat.reduceSub] at hF); (try simp only [nsl, Nat.reduceAdd, Nat.reduceLT, Nat.reduceSub] at hH); subst hF; subst hH
  have h64r : in64 rr := by simp only [List.mem_cons, List.not_mem_nil, or_false] at hrm; simp only [in64] at *; omega
  clear hrm
  refine WO ?_
  refine al_ef rfl (ef_callm true (fun _ => pick_a [0, 0, 4, -2, 20] _ _ _ _ hs (by omega) (by omega) (by simp) (by simp)) rfl .fn rfl (by decide) (by kernel_rfl) rfl rfl (fun _g => .cons (.p rfl) (.cons (.frz rfl rfl rfl rfl rfl) .nil)) (fun _g => .cons (.c rfl) (.cons (.c rfl) .nil)) (fun _ _ _ _ ⟨_, hu, hH, _⟩ => by rw [hu, hH]; exact ⟨.c (.inl trivial), strm_flat (.inr ⟨0, _, rfl, by simp⟩)⟩)) ?_
  rintro F1 H1 ⟨_, _, _, _, ⟨rr, rfl, hq, hrm⟩, hF, hH⟩
  injection hq with hq1 hq2; subst hq1; subst hq2
  (try simp only [nsl, Nat.reduceAdd, Nat.reduceLT, Nat.reduceSub] at hF); (try simp only [nsl, Nat.reduceAdd, Nat.reduceLT, Nat.reduceSub] at hH); subst hF; subst hH
  have h64r : in64 rr := by simp only [List.mem_cons, List.not_mem_nil, or_false] at hrm; simp only [in64] at *; omega
  clear hrm
  refine WE ?_
  refine WR ?_
  refine al_ef rfl (ef_callm false (fun _ => flip_a 40 _ _ _ hs (by omega) (by omega) (by simp only [in64]; omega)) rfl .fn rfl (by decide) (by kernel_rfl) rfl rfl (fun _g => .cons (.p rfl) (.cons (.c rfl) .nil)) (fun _g => .cons (.c rfl) (.cons (.c rfl) .nil)) (by simp)) ?_
  rintro F1 H1 ⟨_, _, _, _, ⟨bb, rfl, hq⟩, hF, hH⟩
  injection hq with hq1 hq2; subst hq1; subst hq2
  (try simp only [nsl, Nat.reduceAdd, Nat.reduceLT, Nat.reduceSub] at hF); (try simp only [nsl, Nat.reduceAdd, Nat.reduceLT, Nat.reduceSub] at hH); subst hF; subst hH
  refine WE ?_
  refine aw_cond rfl (fun _ => ?_) (fun _ => ?_)
  · refine WR ?_
    refine al_ef rfl (ef_callm false (fun _ => odd_a (-100000) 100000 _ _ _ hs (by omega) (by omega) (by omega) (by omega) (by omega) (by omega)) rfl .fn rfl (by decide) (by kernel_rfl) rfl rfl (fun _g => .cons (.p rfl) (.cons (.c rfl) (.cons (.c rfl) .nil))) (fun _g => .cons (.c rfl) (.cons (.c rfl) .nil)) (by simp)) ?_
    rintro F1 H1 ⟨_, _, _, _, ⟨rr, ar, rfl, hq, hr3, hr4, h64r⟩, hF, hH⟩
    injection hq with hq1 hq2; subst hq1; subst hq2
    (try simp only [nsl, Nat.reduceAdd, Nat.reduceLT, Nat.reduceSub] at hF); (try simp only [nsl, Nat.reduceAdd, Nat.reduceLT, Nat.reduceSub] at hH); subst hF; subst hH
    refine WE ?_
    refine WA ?_
    refine aret_a [some 0] _ rfl (KK (t := 34) rfl) rfl (Cells.box rfl) (by simp) (by (try simp only [nm, putL, Nat.reduceAdd, cellsOf, cvOf]) <;> rfl) (by decide) (ZNK rfl) (fun _ => C0 rfl) ZCH ⟨⟨_, _, _⟩, _, rfl, rfl, ?_, ?_, ?_, ?_, ?_⟩
    all_goals first | assumption | omega
  · refine ZZ ?_
    refine WA ?_
    refine aret_a [some 0] _ rfl (KK (t := 34) rfl) rfl (Cells.box rfl) (by simp) (by (try simp only [nm, putL, Nat.reduceAdd, cellsOf, cvOf]) <;> rfl) (by decide) (ZNK rfl) (fun _ => C0 rfl) ZCH ⟨⟨_, _, _⟩, _, rfl, rfl, ?_, ?_, ?_, ?_, ?_⟩
    all_goals first | assumption | omega
end Go.Proofs.YthanangkmjjbaaaGreatDoor

/- A pyramid's surface, by value: its arrays are new. -/
-- NEWM
namespace Go.Proofs.YthanangkmjjbaaaGreatDoor
open Go Go.RowKit
set_option maxRecDepth 100000
def tetV (p : Vec3) (n : Int) : List Vec3 := [p, ⟨p.x + n, p.y, p.z⟩, ⟨p.x, p.y + n, p.z⟩, ⟨p.x, p.y, p.z + n⟩]
def tetF : List Fac3 := [⟨0, 2, 1⟩, ⟨0, 1, 3⟩, ⟨1, 2, 3⟩, ⟨0, 3, 2⟩]
theorem tetra_v (p : Vec3) (n : Int) (hp : (-4000000000000000000 ≤ p.x ∧ p.x ≤ 4000000000000000000) ∧ (-4000000000000000000 ≤ p.y ∧ p.y ≤ 4000000000000000000) ∧ (-4000000000000000000 ≤ p.z ∧ p.z ≤ 4000000000000000000)) (hn : 0 ≤ n ∧ n ≤ 1000) :
    ACalls Tryz.prog 40 [.a (p.row.map .c), .c (I n)] [] fun u H => u = .a [.o 0 0 4 4, .o 1 0 4 4] ∧ H = [.arr 34 3 4 (vR (tetV p n)), .arr 140 3 4 (fR tetF)] := by
  obtain ⟨x, y, z⟩ := p
  simp only at hp
  refine acalls_of (N := 40) Tryz.func40 rfl rfl (by simp) fun E hE => ?_
  refine WA ?_
  refine WA ?_
  exact aret_a [some 2, some 3] [.arr 34 3 4 (vR (tetV ⟨x, y, z⟩ n)), .arr 140 3 4 (fR tetF)] rfl (KK (t := 29) rfl) rfl (Cells.box rfl) (by simp) (by (try simp only [nm, putL, Nat.reduceAdd, cellsOf, cvOf]) <;> rfl) (by decide) (ZNK rfl) (fun _ => .cons (.o rfl rfl) (.cons (.o rfl rfl) .nil)) ZCH ⟨rfl, rfl⟩
end Go.Proofs.YthanangkmjjbaaaGreatDoor
